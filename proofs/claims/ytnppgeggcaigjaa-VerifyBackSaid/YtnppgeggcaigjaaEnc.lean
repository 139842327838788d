/- The law VerifyEncodes: its walk. -/
import Derived.Test.YtnppgeggcaigjaaLaws
namespace Go.Proofs.Ytnppgeggcaigjaa
set_option linter.unusedVariables false
set_option linter.unusedSimpArgs false
open Go.RowKit
theorem S5_of {w : World} {g : Nat} {a : Ak} {A1 A2 : Option Addr} {n : Nat} (c1 c2 : Nat) {E : List Int} (h1 : Vw w A1 n 1 (octs E)) (h2 : Vw w A2 n 1 (octs E)) (hb : Blk w g 24 (acells a)) :
    w.cell? ⟨g, 0, none⟩ = some (.int .i64 a.src) ∧ w.cell? ⟨g, 1, none⟩ = some (.int .i64 a.num) ∧ w.cell? ⟨g, 2, none⟩ = some (.int .i64 a.stg) ∧ w.cell? ⟨g, 3, none⟩ = some (.int .i64 a.cod) ∧
  (convert 25 9 (.slice A1 n c1)).run Try.prog w = .ok (.string (strOfNums E)) w ∧
  (convert 25 9 (.slice A2 n c2)).run Try.prog w = .ok (.string (strOfNums E)) w :=
  have d := abox4 hb
  ⟨d.1, d.2.1, d.2.2.1, d.2.2.2, conv_str (P := Try.prog) 25 9 5 Try.underlying25 Try.underlying5 Try.underlying9 A1 n c1 E h1,
    conv_str (P := Try.prog) 25 9 5 Try.underlying25 Try.underlying5 Try.underlying9 A2 n c2 E h2⟩

set_option maxHeartbeats 4000000 in
theorem encodes_any (w : World) (a : Ak) : Calls Try.prog 3 #[aagg a] w (LawPost w) := by
  obtain ⟨n, E, k, he1, he2⟩ := encode_b (w.alloc (abox a)) a
  have HE1 := Lib.hid he1
  have HE2 := Lib.hid he2
  clear he1 he2
  obtain ⟨b, hb⟩ : ∃ b, a.valid = b := ⟨_, rfl⟩
  have HB := Lib.hid hb
  clear hb
  go_enter Try.func3, Try.ntmps3
  go_wp2_with fail
  refine HE1.out.mono ?_
  rintro e w1 ⟨A1, c1, rfl, hv, hk⟩
  have K1 : Hid (Keep w.heap.size [] w w1) := ((Keep.refl _ _ w).alloc (Nat.le_refl _) _).chain0 (Nat.le_refl _) hk
  have V1 := Lib.hid hv
  have H1 := Lib.hid ((Blk.new w 24 (acells a)).keepS hk (by simp))
  obtain ⟨e0, e1, e2, e3⟩ := abox4 H1.out
  clear hv hk
  go_wp2_with fail
  refine (HE2.out _).mono ?_
  rintro e w2 ⟨A2, c2, rfl, hv, hk⟩
  have K2 : Hid (Keep w.heap.size [] w w2) := K1.out.chain0 (Nat.le_refl _) hk
  have V2 := Lib.hid hv
  have V1' := Lib.hid (V1.out.keep0 hk)
  have H2 := Lib.hid (H1.out.keepS hk (by simp))
  have d2 := S5_of c1 c2 V1'.out.drew V2.out.drew H2.out.drew
  clear hv hk e0 e1 e2 e3 V1 H1 K1
  go_wp2_with fail
  go_region_held3 (fun w' => w'.cell? ⟨w.heap.size, 0, none⟩ = some (.int .i64 a.src) ∧ w'.cell? ⟨w.heap.size, 1, none⟩ = some (.int .i64 a.num) ∧ w'.cell? ⟨w.heap.size, 2, none⟩ = some (.int .i64 a.stg) ∧ w'.cell? ⟨w.heap.size, 3, none⟩ = some (.int .i64 a.cod) ∧
      (convert 25 9 (.slice A1 n c1)).run Try.prog w' = .ok (.string (strOfNums E)) w' ∧ (convert 25 9 (.slice A2 n c2)).run Try.prog w' = .ok (.string (strOfNums E)) w')
    (first | exact d5 | exact d4 | exact d3 | exact d2)
    (first
      | (go_at_call 10
         refine (valid_k _ a b HB.out).mono ?_
         rintro e w3 ⟨rfl, hk⟩
         have hk' := hk.undrew
         have K3 : Hid (Keep w.heap.size [] w w3) := K2.out.chain0 (Nat.le_refl _) hk'
         have VA3 := Lib.hid (V1'.out.keep0 hk')
         have VB3 := Lib.hid (V2.out.keep0 hk')
         have H3 := Lib.hid (H2.out.keepS hk' (by simp))
         have d3 := S5_of c1 c2 VA3.out VB3.out H3.out
         clear hk hk')
      | (go_at_call 11
         refine (rvalid_k _ a b HB.out).mono ?_
         rintro e w4 ⟨rfl, hk'⟩
         have K4 : Hid (Keep w.heap.size [] w w4) := K3.out.chain0 (Nat.le_refl _) hk'
         have VA4 := Lib.hid (VA3.out.keep0 hk')
         have VB4 := Lib.hid (VB3.out.keep0 hk')
         have H4 := Lib.hid (H3.out.keepS hk' (by simp))
         have d4 := S5_of c1 c2 VA4.out VB4.out H4.out
         clear hk')
      | (go_at_call 12
         refine (alive_any _).mono ?_
         rintro e w5 ⟨rfl, hk'⟩
         have K5 : Hid (Keep w.heap.size [] w w5) := K4.out.chain0 (Nat.le_refl _) hk'
         have VA5 := Lib.hid (VA4.out.keep0 hk')
         have VB5 := Lib.hid (VB4.out.keep0 hk')
         have H5 := Lib.hid (H4.out.keepS hk' (by simp))
         have d5 := S5_of c1 c2 VA5.out VB5.out H5.out
         clear hk'))
  go_wp2_with fail
  all_goals go_ret
  all_goals exact ⟨rfl, K5.out⟩
end Go.Proofs.Ytnppgeggcaigjaa
