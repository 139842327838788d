/- The schedule without entries, and bytes.Equal of equal bytes. -/
import Derived.Test.YtfkbcflgbjncdaaChA
import Derived.MapKept
namespace Go.Proofs.Ytfkbcflgbjncdaa
set_option linter.unusedVariables false
set_option linter.unusedSimpArgs false
open Go.RowKit
set_option maxHeartbeats 1000000 in
theorem beq_same (w : World) (X Y : Option Addr) (m c d : Nat) (L : List Int) (hx : Vw w X m 1 (octs L)) (hy : Vw w Y m 1 (octs L)) :
    Calls Try.prog 73 #[.slice X m c, .slice Y m d] w fun e w' => e = .returned (.bool true) ∧ w = w' := by
  have q1 := conv_str (P := Try.prog) (w := w) 35 9 5 Try.underlying35 Try.underlying5 Try.underlying9 X m c L hx
  have q2 := conv_str (P := Try.prog) (w := w) 35 9 5 Try.underlying35 Try.underlying5 Try.underlying9 Y m d L hy
  clear hx hy
  go_enter Try.func73, Try.ntmps73
  go_wp2_with fail
  go_ret
  refine ⟨?_, rfl⟩
  first | rfl | simp
set_option maxHeartbeats 1000000 in
theorem scheck_nil (w : World) : Calls Try.prog 142 #[.slice none 0 0, .int .i64 256] w fun e w' => e = .returned (.int .i64 0) ∧ Keep w.heap.size [] w w' := by
  have hmm := @run_makeMap Try.prog
  go_enter Try.func142, Try.ntmps142
  go_wp2_with fail
  go_loopw [6, 12] (fun tt ii wr => tt = .bool false ∧ ii = .int .i64 0 ∧ wr = w.alloc (.map #[] 0)) (fun _ ii _ => 0)
  case atStart => exact ⟨rfl, rfl, rfl⟩
  case round =>
    obtain ⟨rfl, rfl, rfl⟩ := hrel
    go_wp2_with fail
    go_ret
    exact ⟨rfl, (Keep.refl _ _ _).alloc (Nat.le_refl _) _⟩
def SEncPost (w : World) (e : Ending) (w' : World) : Prop :=
  ∃ A n c, e = .returned (.tuple #[.slice A n c, .int .i64 0]) ∧ n = 1 ∧ Sl w' 5 1 A n c (octs [0]) ∧ Keep w.heap.size [] w w' ∧ ∀ x, x ∈ blks A → w.heap.size ≤ x
theorem vI0 : vI 0 = [0] := by unfold vI zz; rw [if_neg (by omega)]; exact vn_small (by decide)
set_option maxHeartbeats 2000000 in
theorem senc_nil (w : World) : Calls Try.prog 108 #[.slice none 0 0] w (SEncPost w) := by
  go_enter Try.func108, Try.ntmps108
  go_wp2_with fail
  refine (scheck_nil _).mono ?_
  rintro e w1 ⟨rfl, hk1⟩
  have K1 := Lib.hid hk1
  clear hk1
  go_wp2_with fail
  refine (wnew_any _).mono ?_
  rintro e w2 ⟨g, rfl, hg, hw, hk⟩
  have W2 : Hid (WT w w2 g none []) := ⟨K1.out.chain0 (Nat.le_refl _) hk, hw, Nat.le_trans K1.out.size hg, by simp [blks]⟩
  clear hg hw hk
  go_wp2_with fail
  refine (wint_any _ g none [] 0 (by omega) (by omega) (by simp) W2.out.wr).mono ?_
  rintro e w3 ⟨rfl, A3, hw, hk3, hb3⟩
  have W3 := Lib.hid (W2.out.next hw hk3 hb3)
  clear hw hk3 hb3
  go_wp2_with fail
  go_loopw [21] (fun ii wr => ii = .int .i64 0 ∧ wr = w3) (fun ii _ => 0)
  case atStart => exact ⟨rfl, rfl⟩
  case round =>
    obtain ⟨rfl, rfl⟩ := hrel
    go_wp2_with fail
    refine (wbytes_any _ g _ _ W3.out.wr (by have := vI0; unfold vI at this; rw [this]; simp)).mono ?_
    rintro e w4 ⟨A4, n4, c4, rfl, hn, hs, hk4, hb4⟩
    have e0 := vI0
    unfold vI at e0
    rw [e0] at hn hs
    have HN := Lib.hid hn
    have HS := Lib.hid hs
    have HB4 := Lib.hid hb4
    have HK4 := Lib.hid hk4
    clear hn hs hb4 hk4 e0
    go_wp2_with fail
    go_ret2
    exact ⟨A4, n4, c4, rfl, HN.out, HS.out, W3.out.keep.chain0 (Nat.le_refl _) HK4.out, fun x hx => Nat.le_trans W3.out.keep.size (HB4.out x hx)⟩
set_option maxRecDepth 100000 in
set_option maxHeartbeats 2000000 in
theorem sdec_nil (w : World) (X : Option Addr) (c : Nat) (hv : Vw w X 1 1 (octs [0])) : Calls Try.prog 70 #[.slice X 1 c] w fun e w' => e = .returned (.tuple #[.slice none 0 0, .int .i64 0]) ∧ Keep w.heap.size [] w w' := by
  have HV := Lib.hid hv
  clear hv
  go_enter Try.func70, Try.ntmps70
  go_wp2_with fail
  refine (rnew_any _ X 1 c [0] (by omega) HV.out).mono ?_
  rintro e w1 ⟨g, A1, rfl, hr, hk, hg, hA⟩
  have R1 := Lib.hid hr
  have K1 := Lib.hid hk
  clear hr hk hA
  go_wp2_with fail
  refine (rc_v (g := g) (X := A1) 0 256 [] (by omega) (by omega) (by omega) (fun _ h => by cases h) (by rw [vI0]; exact R1.out)).mono ?_
  rintro e w2 ⟨rfl, X2, hr, hk, hx⟩
  have R2 := Lib.hid hr
  have K2 : Hid (Keep w.heap.size [] w w2) := Lib.hid (K1.out.chain1 (Nat.le_refl _) hk hg)
  clear hr hk hx
  go_wp2_with fail
  go_loopw [5, 15] (fun tt ii wr => tt = .slice none 0 0 ∧ ii = .int .i64 0 ∧ wr = w2) (fun _ ii _ => 0)
  case atStart => exact ⟨rfl, rfl, rfl⟩
  case round =>
    obtain ⟨rfl, rfl, rfl⟩ := hrel
    go_wp2_with fail
    refine (senc_nil _).mono ?_
    rintro e w3 ⟨A3, n3, c3, rfl, rfl, hs, hk, hb⟩
    have S3 := Lib.hid hs
    have K3 := Lib.hid hk
    have R3 := Lib.hid (R2.out.keepS hk (by simp) (by simp))
    clear hs hk hb
    go_wp2_with fail
    refine (rend_yes _ g X2 [] R3.out).mono ?_
    rintro e w' ⟨rfl, rfl⟩
    go_wp2_with fail
    refine (beq_same _ A3 X 1 c3 c [0] (S3.out.vw (by omega)) ((HV.out.keep0 K2.out).keep0 K3.out)).mono ?_
    rintro e w' ⟨rfl, rfl⟩
    go_wp2_with fail
    go_ret2
    exact ⟨rfl, K2.out.chain0 (Nat.le_refl _) K3.out⟩
end Go.Proofs.Ytfkbcflgbjncdaa
