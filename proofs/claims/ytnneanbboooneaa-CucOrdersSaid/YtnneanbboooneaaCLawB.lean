/- Encodes, Decodes. -/
import Derived.Test.YtnneanbboooneaaCLawA
namespace Go.Proofs.Ytnneanbboooneaa
set_option linter.unusedVariables false
set_option linter.unusedSimpArgs false
open Go.RowKit
theorem keep_w (w : World) (o : Obj) : Keep w.heap.size [] w (w.alloc o) := (Keep.refl _ _ w).alloc (Nat.le_refl _) o
/-- what CucEncodes reads in its last region -/
def SE (w' : World) (g v : Nat) (C F : Int) (A1 A2 : Option Addr) (n1 n2 c1 c2 : Nat) (E : List Int) : Prop :=
  w'.cell? ⟨g, 0, none⟩ = some (.int .i64 C) ∧ w'.cell? ⟨g, 1, none⟩ = some (.int .i64 F) ∧ w'.cell? ⟨v, 0, none⟩ = some (.int .i64 C) ∧ w'.cell? ⟨v, 1, none⟩ = some (.int .i64 F) ∧
  (convert 25 9 (.slice A1 n1 c1)).run Try.prog w' = .ok (.string (strOfNums E)) w' ∧ (convert 25 9 (.slice A2 n2 c2)).run Try.prog w' = .ok (.string (strOfNums E)) w'
structure WE (w W : World) (v : Nat) (C F : Int) (A1 A2 : Option Addr) (n1 n2 : Nat) (E : List Int) : Prop where
  keep : Keep w.heap.size [] w W
  b1 : Blk W w.heap.size 23 #[.int .i64 C, .int .i64 F]
  b2 : Blk W v 24 #[.int .i64 C, .int .i64 F]
  v1 : Vw W A1 n1 1 (octs E)
  v2 : Vw W A2 n2 1 (octs E)
theorem WE.next {w W W' : World} {v : Nat} {C F : Int} {A1 A2 : Option Addr} {n1 n2 : Nat} {E : List Int} (h : WE w W v C F A1 A2 n1 n2 E) (hk : Keep W.heap.size [] W W') : WE w W' v C F A1 A2 n1 n2 E :=
  ⟨h.keep.chain0 (Nat.le_refl _) hk, h.b1.keepS hk (by simp), h.b2.keepS hk (by simp), h.v1.keep0 hk, h.v2.keep0 hk⟩
theorem WE.drew {w W : World} {v : Nat} {C F : Int} {A1 A2 : Option Addr} {n1 n2 : Nat} {E : List Int} (h : WE w W v C F A1 A2 n1 n2 E) : WE w W.drew v C F A1 A2 n1 n2 E := ⟨h.keep.drew, h.b1, h.b2, h.v1, h.v2⟩
theorem WE.s {w W : World} {v : Nat} {C F : Int} {A1 A2 : Option Addr} {n1 n2 : Nat} {E : List Int} (h : WE w W v C F A1 A2 n1 n2 E) (c1 c2 : Nat) : SE W w.heap.size v C F A1 A2 n1 n2 c1 c2 E :=
  ⟨h.b1.cell 0, h.b1.cell 1, h.b2.cell 0, h.b2.cell 1, cv h.v1, cv h.v2⟩
set_option maxHeartbeats 4000000 in
theorem encodes_any (w : World) (t C F : Int) : Calls Try.prog 3 #[.int .i64 t, fagg C F] w (LawPost w) := by
  obtain ⟨z, hz⟩ : ∃ z, encE t C F = z := ⟨_, rfl⟩
  obtain ⟨E, hE⟩ : ∃ E, encL t C F = E := ⟨_, rfl⟩
  obtain ⟨x, y, hr⟩ : ∃ x y, roundP t C F = (x, y) := ⟨_, _, rfl⟩
  obtain ⟨bo, hbo⟩ : ∃ b, okF C F = b := ⟨_, rfl⟩
  obtain ⟨sz, hsz⟩ : ∃ s, sizeF C F = s := ⟨_, rfl⟩
  have HZ := Lib.hid hz
  have HE := Lib.hid hE
  have HR := Lib.hid hr
  have HBO := Lib.hid hbo
  have HSZ := Lib.hid hsz
  have B0 := Lib.hid ((Blk.new w 23 #[.int .i64 C, .int .i64 F]).alloc (.cells #[.int .i64 C, .int .i64 F] 24))
  have C0 : Hid (Blk ((w.alloc (.cells #[.int .i64 C, .int .i64 F] 23)).alloc (.cells #[.int .i64 C, .int .i64 F] 24)) (w.heap.size + 1) 24 #[.int .i64 C, .int .i64 F]) := Lib.hid (by
    have h := Blk.new (w.alloc (.cells #[.int .i64 C, .int .i64 F] 23)) 24 #[.int .i64 C, .int .i64 F]
    simpa using h)
  have K0 : Hid (Keep w.heap.size [] w ((w.alloc (.cells #[.int .i64 C, .int .i64 F] 23)).alloc (.cells #[.int .i64 C, .int .i64 F] 24))) := Lib.hid ((keep_w w _).alloc (keep_w w _).size _)
  clear hz hE hr hbo hsz
  go_enter Try.func3, Try.ntmps3
  go_wp2_with fail
  refine (cenc_any _ t C F z E HZ.out HE.out).mono ?_
  rintro e w1 ⟨A1, n1, c1, rfl, hv, hk, _, _, _⟩
  have V1 := Lib.hid hv
  have B1 := Lib.hid (B0.out.keepS hk (by simp))
  have C1 := Lib.hid (C0.out.keepS hk (by simp))
  have K1 := Lib.hid (K0.out.chain0 (Nat.le_refl _) hk)
  obtain ⟨d0, d1⟩ := fcell B1.out
  obtain ⟨e0, e1⟩ := fcell C1.out
  clear hv hk B0 C0 K0
  obtain ⟨v, hv⟩ : ∃ v, v = w.heap.size + 1 := ⟨_, rfl⟩
  rw [← hv] at C1 e0 e1
  rw [← hv]
  clear hv
  go_wp2_with fail
  refine (renc_any _ t C F z E HZ.out HE.out).mono ?_
  rintro e w2 ⟨A2, n2, c2, rfl, hv, hk, _, _, _⟩
  have G2 : Hid (WE w w2 v C F A1 A2 n1 n2 E) := Lib.hid ⟨K1.out.chain0 (Nat.le_refl _) hk, B1.out.keepS hk (by simp), C1.out.keepS hk (by simp), V1.out.keep0 hk, hv⟩
  clear hv hk d0 d1 e0 e1 V1 B1 C1 K1
  obtain ⟨d0, d1, e0, e1, _⟩ := G2.out.s c1 c2
  go_wp2_with fail
  refine (cround_any _ t C F x y HR.out).mono ?_
  rintro e w3 ⟨rfl, hk⟩
  have G3 := Lib.hid (G2.out.next hk)
  clear hk d0 d1 e0 e1 G2
  obtain ⟨d0, d1, e0, e1, _⟩ := G3.out.s c1 c2
  go_wp2_with fail
  refine (rround_any _ t C F x y HR.out).mono ?_
  rintro e w4 ⟨rfl, hk⟩
  have G4 := Lib.hid (G3.out.next hk)
  clear hk d0 d1 e0 e1 G3
  have s4 := G4.out.drew.s c1 c2
  go_wp2_with fail
  go_region_held3 (fun w' => w'.cell? ⟨w.heap.size, 0, none⟩ = some (.int .i64 C) ∧ w'.cell? ⟨w.heap.size, 1, none⟩ = some (.int .i64 F) ∧ w'.cell? ⟨v, 0, none⟩ = some (.int .i64 C) ∧ w'.cell? ⟨v, 1, none⟩ = some (.int .i64 F) ∧
      (convert 25 9 (.slice A1 n1 c1)).run Try.prog w' = .ok (.string (strOfNums E)) w' ∧ (convert 25 9 (.slice A2 n2 c2)).run Try.prog w' = .ok (.string (strOfNums E)) w')
    (first | exact s4 | exact G5.out.s c1 c2 | exact G6.out.s c1 c2 | exact G7.out.s c1 c2 | exact G8.out.s c1 c2 | exact G9.out.s c1 c2)
    (first
      | (go_at_call 12
         refine (cvalid_any _ C F bo HBO.out).mono ?_
         rintro e w5 ⟨rfl, hk⟩
         have G5 := Lib.hid (G4.out.next hk.undrew)
         clear hk)
      | (go_at_call 13
         refine (rvalid_any _ C F bo HBO.out).mono ?_
         rintro e w6 ⟨rfl, hk⟩
         have G6 := Lib.hid (G5.out.next hk)
         clear hk)
      | (go_at_call 14
         refine (csize_any _ C F sz HSZ.out).mono ?_
         rintro e w7 ⟨rfl, hk⟩
         have G7 := Lib.hid (G6.out.next hk)
         clear hk)
      | (go_at_call 15
         refine (rsize_any _ C F sz HSZ.out).mono ?_
         rintro e w8 ⟨rfl, hk⟩
         have G8 := Lib.hid (G7.out.next hk)
         clear hk)
      | (go_at_call 16
         refine (alive_any _).mono ?_
         rintro e w9 ⟨rfl, hk⟩
         have G9 := Lib.hid (G8.out.next hk)
         clear hk))
  all_goals go_wp2_with fail
  all_goals go_ret
  all_goals exact ⟨rfl, G9.out.keep⟩
set_option maxHeartbeats 2000000 in
theorem decodes_any (w : World) (X : Option Addr) (m c : Nat) (L : List Int) (hO : Oct L) (hmc : m ≤ c) (hcm : c ≤ maxLen) (hv : Vw w X m 1 (octs L)) : Calls Try.prog 4 #[.slice X m c] w (LawPost w) := by
  obtain ⟨d, hd⟩ : ∃ d, decP L = d := ⟨_, rfl⟩
  obtain ⟨dt, dC, dF, dn, de⟩ := d
  have HD := Lib.hid hd
  have HO := Lib.hid hO
  have V0 := Lib.hid hv
  clear hd hO hv
  by_cases hb : 100 < m
  · have hb' : (100 : Int) < (m : Int) := by omega
    go_enter Try.func4, Try.ntmps4
    go_wp2_with fail
    refine (alive_any _).mono ?_
    rintro e w1 ⟨rfl, hk⟩
    have K1 := Lib.hid hk
    clear hk
    go_wp2_with fail
    go_ret
    exact ⟨rfl, K1.out⟩
  · have hb' : (m : Int) ≤ 100 := by omega
    go_enter Try.func4, Try.ntmps4
    go_wp2_with fail
    refine (cdec_any _ X m c L _ HD.out HO.out hmc hcm (by omega) V0.out).mono ?_
    rintro e w1 ⟨rfl, hk⟩
    have K1 := Lib.hid (hk.alloc hk.size (.cells #[.int .i64 dC, .int .i64 dF] 23))
    have V1 := Lib.hid ((V0.out.keep0 hk).alloc (.cells #[.int .i64 dC, .int .i64 dF] 23))
    have B1 := Lib.hid (Blk.new w1 23 #[.int .i64 dC, .int .i64 dF])
    clear hk
    go_wp2_with fail
    refine (rdec_any _ X m c L _ HD.out HO.out hmc hcm (by omega) V1.out).mono ?_
    rintro e w2 ⟨rfl, hk⟩
    have K2 := Lib.hid ((K1.out.chain0 (Nat.le_refl _) hk).alloc (K1.out.chain0 (Nat.le_refl _) hk).size (.cells #[.int .i64 dC, .int .i64 dF] 24))
    have B2 := (B1.out.keepS hk (by simp)).alloc (.cells #[.int .i64 dC, .int .i64 dF] 24)
    obtain ⟨d0, d1⟩ := fcell B2
    obtain ⟨e0, e1⟩ := fcell (Blk.new w2 24 #[.int .i64 dC, .int .i64 dF])
    clear hk B2
    go_wp2_with fail
    refine (alive_any _).mono ?_
    rintro e w3 ⟨rfl, hk⟩
    have K3 := Lib.hid (K2.out.chain0 (Nat.le_refl _) hk)
    clear hk
    go_wp2_with fail
    go_ret
    exact ⟨rfl, K3.out⟩
end Go.Proofs.Ytnneanbboooneaa
