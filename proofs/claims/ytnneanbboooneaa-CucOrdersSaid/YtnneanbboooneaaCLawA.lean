/- Decode's contracts in one; the law package's alive. -/
import Derived.Test.YtnneanbboooneaaCWalkG
import Derived.Test.YtnneanbboooneaaCWalkH
namespace Go.Proofs.Ytnneanbboooneaa
set_option linter.unusedVariables false
set_option linter.unusedSimpArgs false
open Go.RowKit
theorem cdec_any (w : World) (X : Option Addr) (m c : Nat) (L : List Int) (d : Dc) (hd : decP L = d) (hO : Oct L) (hmc : m ≤ c) (hcm : c ≤ maxLen) (hmb : m ≤ 140737488355328) (hv : Vw w X m 1 (octs L)) : Calls Try.prog 17 #[.slice X m c] w (DPost w d) := by
  subst hd
  have hl : m = L.length := by have := hv.1; simp [octs] at this; omega
  cases L with
  | nil => obtain rfl : m = 0 := hl; exact cdec_nil w X c
  | cons x R =>
    simp only [List.length_cons] at hl
    obtain ⟨b, o, rfl, _⟩ := hv.2 (by omega)
    by_cases hx : x < 16 ∨ 31 < x
    · exact cdec_bad w b o m c x R (by omega) hmc hv hx
    · exact cdec_ok w b o m c x R (x - 16).toNat _ _ (fun y hy => hO y (by simp [hy])) hl hmc hcm hmb hv (by omega) (by omega) rfl rfl
theorem rdec_any (w : World) (X : Option Addr) (m c : Nat) (L : List Int) (d : Dc) (hd : decP L = d) (hO : Oct L) (hmc : m ≤ c) (hcm : c ≤ maxLen) (hmb : m ≤ 140737488355328) (hv : Vw w X m 1 (octs L)) : Calls Try.prog 18 #[.slice X m c] w (DPost w d) := by
  subst hd
  have hl : m = L.length := by have := hv.1; simp [octs] at this; omega
  cases L with
  | nil => obtain rfl : m = 0 := hl; exact rdec_nil w X c
  | cons x R =>
    simp only [List.length_cons] at hl
    obtain ⟨b, o, rfl, _⟩ := hv.2 (by omega)
    by_cases hx : x < 16 ∨ 31 < x
    · exact rdec_bad w b o m c x R (by omega) hmc hv hx
    · exact rdec_ok w b o m c x R _ _ (fun y hy => hO y (by simp [hy])) hl hmc hcm hmb hv (by omega) (by omega) rfl rfl
def LawPost (w : World) (e : Ending) (w' : World) : Prop := e = .returned (.bool true) ∧ Keep w.heap.size [] w w'
theorem cv {w : World} {X : Option Addr} {m c : Nat} {L : List Int} (hv : Vw w X m 1 (octs L)) : (convert 25 9 (.slice X m c)).run Try.prog w = .ok (.string (strOfNums L)) w :=
  conv_str (P := Try.prog) 25 9 5 Try.underlying25 Try.underlying5 Try.underlying9 X m c L hv
set_option maxHeartbeats 4000000 in
theorem alive_any (w : World) : Calls Try.prog 16 #[] w (LawPost w) := by
  go_enter Try.func16, Try.ntmps16
  go_wp2_with fail
  refine (cenc_any _ 1000 1 1 0 [17, 3, 232] (by decide) (by decide)).mono ?_
  rintro e w1 ⟨A1, n1, c1, rfl, hv, hk, _, _, _⟩
  have V1 := Lib.hid hv
  have K1 : Hid (Keep w.heap.size [] w w1) := Lib.hid hk
  clear hv hk
  go_wp2_with fail
  refine (cenc_any _ 1000 2 0 0 [20, 0, 3] (by decide) (by decide)).mono ?_
  rintro e w2 ⟨A2, n2, c2, rfl, hv, hk, _, hnc, hcm⟩
  have V12 := Lib.hid (V1.out.keep0 hk)
  have V2 := Lib.hid hv
  have K2 := Lib.hid (K1.out.chain0 (Nat.le_refl _) hk)
  clear hv hk V1
  go_wp2_with fail
  refine (cenc_any _ 1000 4 3 0 [31, 0, 0, 0, 3, 232, 0, 0] (by decide) (by decide)).mono ?_
  rintro e w3 ⟨A3, n3, c3, rfl, hv, hk, _, _, _⟩
  have V13 := Lib.hid (V12.out.keep0 hk)
  have V23 := Lib.hid (V2.out.keep0 hk)
  have V3 := Lib.hid hv
  have K3 := Lib.hid (K2.out.chain0 (Nat.le_refl _) hk)
  clear hv hk V12 V2
  go_wp2_with fail
  refine (cdec_any _ A2 n2 c2 [20, 0, 3] ⟨768, 2, 0, 3, 0⟩ (by rfl) (by unfold Oct; decide) hnc hcm (by have := V23.out.1; simp at this; omega) V23.out).mono ?_
  rintro e w4 ⟨rfl, hk⟩
  have V14 := Lib.hid (V13.out.keep0 hk)
  have V24 := Lib.hid (V23.out.keep0 hk)
  have V34 := Lib.hid (V3.out.keep0 hk)
  have K4 := Lib.hid (K3.out.chain0 (Nat.le_refl _) hk)
  clear hk V13 V23 V3
  have B4 := Lib.hid (Blk.new w4 23 #[.int .i64 2, .int .i64 0])
  go_wp2_with fail
  refine (cenc_any _ 65536 1 1 10 [] (by decide) (by decide)).mono ?_
  rintro e w5 ⟨A5, n5, c5, rfl, hv, hk, _, _, _⟩
  have V15 := Lib.hid ((V14.out.alloc _).keep0 hk)
  have V25 := Lib.hid ((V24.out.alloc _).keep0 hk)
  have V35 := Lib.hid ((V34.out.alloc _).keep0 hk)
  have B5 := Lib.hid (B4.out.keepS hk (by simp))
  have K5 : Hid (Keep w.heap.size [] w w5) := Lib.hid ((K4.out.alloc K4.out.size _).chain0 (Nat.le_refl _) hk)
  clear hv hk V14 V24 V34
  go_wp2_with fail
  refine (cround_any _ 65536 1 1 65535 0 (by decide)).mono ?_
  rintro e w6 ⟨rfl, hk⟩
  have V16 := V15.out.keep0 hk
  have V26 := V25.out.keep0 hk
  have V36 := V35.out.keep0 hk
  have B6 := B5.out.keepS hk (by simp)
  obtain ⟨d0, d1⟩ := fcell B6
  have K6 : Hid (Keep w.heap.size [] w w6) := Lib.hid (K5.out.chain0 (Nat.le_refl _) hk)
  have q1 := cv (c := c1) V16
  have q2 := cv (c := c2) V26
  have q3 := cv (c := c3) V36
  rw [show strOfNums [17, 3, 232] = ⟨#[17, 3, 232]⟩ from rfl] at q1
  rw [show strOfNums [20, 0, 3] = ⟨#[20, 0, 3]⟩ from rfl] at q2
  rw [show strOfNums [31, 0, 0, 0, 3, 232, 0, 0] = ⟨#[31, 0, 0, 0, 3, 232, 0, 0]⟩ from rfl] at q3
  clear hk V15 V25 V35 V16 V26 V36 B6
  go_wp2_with fail
  go_ret
  exact ⟨rfl, K6.out⟩
end Go.Proofs.Ytnneanbboooneaa
