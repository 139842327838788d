/- The protocol data units: Valid. -/
import Derived.Test.YtfkbcflgbjncdaaTxX
import Derived.Deep.DeepCutAuto
namespace Go.Proofs.Ytfkbcflgbjncdaa
set_option linter.unusedVariables false
set_option linter.unusedSimpArgs false
open Go.RowKit
set_option maxRecDepth 100000 in
set_option maxHeartbeats 8000000 in
theorem pvalid_b (w : World) (p : Pd) (l : Lc) (v : Bool) (hp : PIn w p l) (hv : validP p = v) : Calls Try.prog 75 #[.agg (pcs p l)] w fun e w' => e = .returned (.bool v) ∧ Keep w.heap.size [] w w' := by
  have k1 : Keep w.heap.size [] w (w.alloc (.cells (pcs p l) TP)) := (Keep.refl _ _ w).alloc (Nat.le_refl _) _
  have hb := Blk.new w TP (pcs p l)
  have P1 := Lib.hid (hp.keep0 k1)
  have HV := Lib.hid hv
  clear hp hv
  by_cases hh : headB p = true
  · have hh' := hh
    unfold headB at hh'
    rw [Bool.and_eq_true, Bool.and_eq_true] at hh'
    have HK := Lib.hid hh'.1
    have HS := Lib.hid hh'.2.1
    have HN := Lib.hid hh'.2.2
    obtain ⟨k0, k7⟩ := inB_iff.1 hh'.1
    have HH := Lib.hid hh
    clear hh hh'
    obtain ⟨eb, heb⟩ : ∃ eb, emptyB (restP p) = eb := ⟨_, rfl⟩
    have HEB := Lib.hid heb
    clear heb
    obtain ⟨W0, hW0⟩ : ∃ W0, W0 = w.alloc (.cells (pcs p l) TP) := ⟨_, rfl⟩
    have B0 : Hid (Blk W0 w.heap.size TP (pcs p l)) := Lib.hid (by rw [hW0]; exact hb)
    rw [← hW0] at P1 k1
    have K0 := Lib.hid k1
    clear hb k1
    go_enter Try.func75, Try.ntmps75
    go_upto_region 1 with fail
    change Code.wp _ _ _ _ (w.alloc (.cells (pcs p l) TP))
    rw [← hW0]
    clear hW0
    obtain ⟨g, hg⟩ : ∃ g, g = w.heap.size := ⟨_, rfl⟩
    rw [← hg] at B0 ⊢
    clear hg
    have c0 : W0.cell? ⟨g, 0, none⟩ = some (.int .i64 p.kind) := B0.out.cell 0
    have c1 : W0.cell? ⟨g, 1, none⟩ = some (.int .i64 p.src) := B0.out.cell 1
    have c2 : W0.cell? ⟨g, 2, none⟩ = some (.int .i64 p.num) := B0.out.cell 2
    have c3 : W0.cell? ⟨g, 3, none⟩ = some (.int .i64 p.cls) := B0.out.cell 3
    have c4 : W0.cell? ⟨g, 4, none⟩ = some (.string (strOfNums p.name)) := B0.out.cell 4
    have c5 : W0.cell? ⟨g, 5, none⟩ = some (.int .i64 p.size) := B0.out.cell 5
    have c6 : W0.cell? ⟨g, 6, none⟩ = some (.int .i64 p.off) := B0.out.cell 6
    have c7 : W0.cell? ⟨g, 7, none⟩ = some (.slice l.D l.dn l.dc) := B0.out.cell 7
    have c8 : W0.cell? ⟨g, 8, none⟩ = some (.int .u32 p.sum) := B0.out.cell 8
    have c9 : W0.cell? ⟨g, 9, none⟩ = some (.int .i64 p.code) := B0.out.cell 9
    have c10 : W0.cell? ⟨g, 10, none⟩ = some (.slice l.G l.gn l.gc) := B0.out.cell 10
    go_wp2_with fail
    refine (within_b _ _ _ _ true HK.out).mono ?_
    rintro e w' ⟨rfl, rfl⟩
    go_wp2_with fail
    refine (within_b _ _ _ _ true HS.out).mono ?_
    rintro e w' ⟨rfl, rfl⟩
    go_wp2_with fail
    refine (within_b _ _ _ _ true HN.out).mono ?_
    rintro e w' ⟨rfl, rfl⟩
    go_wp2_with fail
    refine (rest_any _ p l).mono ?_
    rintro e w2 ⟨rfl, hk2⟩
    have P2 := Lib.hid (P1.out.keep0 hk2)
    have B2 := Lib.hid (B0.out.keepS hk2 (by simp))
    have K2 := Lib.hid (K0.out.chain0 (Nat.le_refl _) hk2)
    clear hk2 c0 c1 c2 c3 c4 c5 c6 c7 c8 c9 c10
    go_wp2_with fail
    refine (empty_b _ (restP p) (restL p l) eb (restP_in P2.out) HEB.out).mono ?_
    rintro e w3 ⟨rfl, hk3⟩
    have P3 := Lib.hid (P2.out.keep0 hk3)
    have B3 := Lib.hid (B2.out.keepS hk3 (by simp))
    have K3 := Lib.hid (K2.out.chain0 (Nat.le_refl _) hk3)
    clear hk3
    cases eb with
    | false =>
      have ev : v = false := by rw [← HV.out]; unfold validP; rw [HEB.out]; simp
      subst ev
      go_wp2_with fail
      go_ret
      exact ⟨rfl, K3.out⟩
    | true =>
      have ev : bodyB p = v := by rw [← HV.out]; unfold validP; rw [HEB.out, HH.out]; simp
      have EV := Lib.hid ev
      clear ev
      have c0 : w3.cell? ⟨g, 0, none⟩ = some (.int .i64 p.kind) := B3.out.cell 0
      have c1 : w3.cell? ⟨g, 1, none⟩ = some (.int .i64 p.src) := B3.out.cell 1
      have c2 : w3.cell? ⟨g, 2, none⟩ = some (.int .i64 p.num) := B3.out.cell 2
      have c3 : w3.cell? ⟨g, 3, none⟩ = some (.int .i64 p.cls) := B3.out.cell 3
      have c4 : w3.cell? ⟨g, 4, none⟩ = some (.string (strOfNums p.name)) := B3.out.cell 4
      have c5 : w3.cell? ⟨g, 5, none⟩ = some (.int .i64 p.size) := B3.out.cell 5
      have c6 : w3.cell? ⟨g, 6, none⟩ = some (.int .i64 p.off) := B3.out.cell 6
      have c7 : w3.cell? ⟨g, 7, none⟩ = some (.slice l.D l.dn l.dc) := B3.out.cell 7
      have c8 : w3.cell? ⟨g, 8, none⟩ = some (.int .u32 p.sum) := B3.out.cell 8
      have c9 : w3.cell? ⟨g, 9, none⟩ = some (.int .i64 p.code) := B3.out.cell 9
      have c10 : w3.cell? ⟨g, 10, none⟩ = some (.slice l.G l.gn l.gc) := B3.out.cell 10
      have HD := Lib.hid P3.out.dlen
      have hdl := P3.out.dl
      go_wp2_with fail
      all_goals
        iterate 4 try ((first
          | (refine (pname_b _ p.name _ P3.out.on P3.out.nl rfl).mono ?_
             rintro e w4 ⟨rfl, rfl⟩)
          | (refine (pgaps_b _ l.G l.gn l.gc p.gaps _ P3.out.cg.1 P3.out.cg.2 P3.out.gl P3.out.vg rfl).mono ?_
             rintro e w4 ⟨rfl, hk4⟩
             have K3 := Lib.hid (K3.out.chain0 (Nat.le_refl _) hk4))
          | (refine (within_b _ _ _ _ _ rfl).mono ?_
             rintro e w4 ⟨rfl, rfl⟩))
          <;> go_wp2_with fail)
      all_goals
        go_ret
      all_goals
        refine ⟨?_, K3.out⟩
        have ev := EV.out
        have hd := HD.out
        rw [← ev]
        unfold bodyB
        simp_all
  · have ev : v = false := by rw [← HV.out]; unfold validP; rw [Bool.not_eq_true] at hh; rw [hh]; rfl
    subst ev
    have K0 := Lib.hid k1
    obtain ⟨b1, h1⟩ : ∃ b, inB p.kind 1 7 = b := ⟨_, rfl⟩
    obtain ⟨b2, h2⟩ : ∃ b, inB p.src 0 15 = b := ⟨_, rfl⟩
    obtain ⟨b3, h3⟩ : ∃ b, inB p.num 0 65535 = b := ⟨_, rfl⟩
    have hbb : (b1 && (b2 && b3)) = false := by rw [← h1, ← h2, ← h3]; unfold headB at hh; simpa using hh
    have H1 := Lib.hid h1
    have H2 := Lib.hid h2
    have H3 := Lib.hid h3
    clear hh h1 h2 h3 k1 hb P1 HV
    unfold pcs at K0 ⊢
    cases b1 with
    | false =>
      go_enter Try.func75, Try.ntmps75
      go_wp2_with fail
      refine (within_b _ _ _ _ false H1.out).mono ?_
      rintro e w' ⟨rfl, rfl⟩
      go_wp2_with fail
      go_ret
      exact ⟨rfl, K0.out⟩
    | true =>
      cases b2 with
      | false =>
        go_enter Try.func75, Try.ntmps75
        go_wp2_with fail
        refine (within_b _ _ _ _ true H1.out).mono ?_
        rintro e w' ⟨rfl, rfl⟩
        go_wp2_with fail
        refine (within_b _ _ _ _ false H2.out).mono ?_
        rintro e w' ⟨rfl, rfl⟩
        go_wp2_with fail
        go_ret
        exact ⟨rfl, K0.out⟩
      | true =>
        obtain rfl : b3 = false := by simpa using hbb
        go_enter Try.func75, Try.ntmps75
        go_wp2_with fail
        refine (within_b _ _ _ _ true H1.out).mono ?_
        rintro e w' ⟨rfl, rfl⟩
        go_wp2_with fail
        refine (within_b _ _ _ _ true H2.out).mono ?_
        rintro e w' ⟨rfl, rfl⟩
        go_wp2_with fail
        refine (within_b _ _ _ _ false H3.out).mono ?_
        rintro e w' ⟨rfl, rfl⟩
        go_wp2_with fail
        go_ret
        exact ⟨rfl, K0.out⟩
end Go.Proofs.Ytfkbcflgbjncdaa
