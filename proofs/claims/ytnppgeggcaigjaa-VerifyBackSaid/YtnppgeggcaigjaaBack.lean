/- The law VerifyBack: its walk. -/
import Derived.Test.YtnppgeggcaigjaaEnc
namespace Go.Proofs.Ytnppgeggcaigjaa
set_option linter.unusedVariables false
set_option linter.unusedSimpArgs false
open Go.RowKit
theorem decP_cases (L : List Int) (hO : Oct L) : (∃ e : Int, decP L = (zak, e) ∧ (e == 0) = false) ∨ ∃ b : Ak, decP L = (b, 0) ∧ b.valid = true ∧ enc b = L ∧ L.length = 5 := by
  unfold decP
  by_cases h1 : L.length < 5
  · rw [if_pos h1]; exact .inl ⟨3, rfl, rfl⟩
  rw [if_neg h1]
  by_cases h2 : 5 < L.length
  · rw [if_pos h2]; exact .inl ⟨6, rfl, rfl⟩
  rw [if_neg h2]
  cases h3 : (dec L).valid with
  | false => exact .inl ⟨4, rfl, rfl⟩
  | true =>
    refine .inr ⟨dec L, rfl, h3, ?_, by omega⟩
    obtain ⟨a, b, c, d, e, rfl⟩ := len5 (L := L) (by omega)
    have ha := hO a (by simp)
    have hb := hO b (by simp)
    have hc := hO c (by simp)
    simp only [dec, enc, List.getD_cons_zero, List.getD_cons_succ]
    congr 1
    congr 1
    · omega
    congr 1
    omega

theorem decode_zk (w : World) (X : Option Addr) (m c : Nat) (L : List Int) (e0 : Int) (h : decP L = (zak, e0)) (hO : Oct L) (hm : m ≤ 140737488355328) (hv : Vw w X m 1 (octs L)) :
    Calls Try.prog 13 #[.slice X m c] w fun e w' => e = .returned (.tuple #[.agg #[.int .i64 0, .int .i64 0, .int .i64 0, .int .i64 0], .int .i64 e0]) ∧ Keep w.heap.size [] w w' :=
  decode_r w X m c L _ h hO hm hv
theorem S2_of {w : World} {g : Nat} {a : Ak} {A1 A2 : Option Addr} {n m : Nat} (c1 c2 : Nat) {E : List Int} (h1 : Vw w A1 n 1 (octs E)) (h2 : Vw w A2 m 1 (octs E)) (hb : Blk w g 24 (acells a)) :
    w.cell? ⟨g, 0, none⟩ = some (.int .i64 a.src) ∧ w.cell? ⟨g, 1, none⟩ = some (.int .i64 a.num) ∧ w.cell? ⟨g, 2, none⟩ = some (.int .i64 a.stg) ∧ w.cell? ⟨g, 3, none⟩ = some (.int .i64 a.cod) ∧
    (convert 25 9 (.slice A1 n c1)).run Try.prog w = .ok (.string (strOfNums E)) w ∧ (convert 25 9 (.slice A2 m c2)).run Try.prog w = .ok (.string (strOfNums E)) w :=
  have d := abox4 hb
  ⟨d.1, d.2.1, d.2.2.1, d.2.2.2, conv_str (P := Try.prog) 25 9 5 Try.underlying25 Try.underlying5 Try.underlying9 A1 n c1 E h1,
    conv_str (P := Try.prog) 25 9 5 Try.underlying25 Try.underlying5 Try.underlying9 A2 m c2 E h2⟩

set_option maxHeartbeats 4000000 in
theorem back_any (w : World) (a : Ak) (X : Option Addr) (m c : Nat) (L : List Int) (hO : Oct L) (hv : Vw w X m 1 (octs L)) :
    Calls Try.prog 5 #[aagg a, .slice X m c] w (LawPost w) := by
  have HO := Lib.hid hO
  have HV := Lib.hid hv
  clear hv
  by_cases hlt : 100 < m
  · have hl : (100 : Int) < (m : Int) := by omega
    go_enter Try.func5, Try.ntmps5
    go_wp2_with fail
    refine (alive_any _).mono ?_
    rintro e w1 ⟨rfl, hk⟩
    have HK : Hid (Keep w.heap.size [] w w1) := ((Keep.refl _ _ w).alloc (Nat.le_refl _) _).chain0 (Nat.le_refl _) hk
    clear hk
    go_wp2_with fail
    go_ret
    exact ⟨rfl, HK.out⟩
  have hl : (m : Int) ≤ 100 := by omega
  have hm : m ≤ 140737488355328 := by omega
  have hdc := decP_cases L hO
  clear hO
  cases hval : a.valid with
  | false =>
    have HA := Lib.hid hval
    clear hval
    rcases hdc with ⟨x0, hd, he0⟩ | ⟨b, hd, hb, hen, hlen⟩
    · have HD := Lib.hid hd
      clear hd
      go_enter Try.func5, Try.ntmps5
      go_wp2_with fail
      refine (encode_no _ a HA.out).mono ?_
      rintro e w1 ⟨rfl, hk⟩
      have K1 : Hid (Keep w.heap.size [] w w1) := ((Keep.refl _ _ w).alloc (Nat.le_refl _) _).chain0 (Nat.le_refl _) hk
      have V1 := Lib.hid ((HV.out.alloc _).keep0 hk)
      have H1 := Lib.hid ((Blk.new w 24 (acells a)).keepS hk (by simp))
      have d1 := abox4 H1.out
      clear hk
      go_wp2_with fail
      refine (valid_k _ a false HA.out).mono ?_
      rintro e w3 ⟨rfl, hk⟩
      have K3 : Hid (Keep w.heap.size [] w w3) := K1.out.chain0 (Nat.le_refl _) hk
      have V3 := Lib.hid (V1.out.keep0 hk)
      clear hk d1
      go_wp2_with fail
      refine (decode_zk _ X m c L x0 HD.out HO.out hm V3.out).mono ?_
      rintro e w4 ⟨rfl, hk⟩
      have K4 : Hid (Keep w.heap.size [] w w4) := K3.out.chain0 (Nat.le_refl _) hk
      clear hk
      go_wp2_with fail
      refine (alive_any _).mono ?_
      rintro e w5 ⟨rfl, hk⟩
      have K5 : Hid (Keep w.heap.size [] w w5) := (K4.out.alloc K4.out.size _).chain0 (Nat.le_refl _) hk
      clear hk
      go_wp2_with fail
      go_ret
      exact ⟨rfl, K5.out⟩
    · subst hen
      have HD := Lib.hid hd
      have HB := Lib.hid hb
      clear hd hb hlen
      go_enter Try.func5, Try.ntmps5
      go_wp2_with fail
      refine (encode_no _ a HA.out).mono ?_
      rintro e w1 ⟨rfl, hk⟩
      have K1 : Hid (Keep w.heap.size [] w w1) := ((Keep.refl _ _ w).alloc (Nat.le_refl _) _).chain0 (Nat.le_refl _) hk
      have V1 := Lib.hid ((HV.out.alloc _).keep0 hk)
      have H1 := Lib.hid ((Blk.new w 24 (acells a)).keepS hk (by simp))
      have d1 := abox4 H1.out
      clear hk
      go_wp2_with fail
      refine (valid_k _ a false HA.out).mono ?_
      rintro e w3 ⟨rfl, hk⟩
      have K3 : Hid (Keep w.heap.size [] w w3) := K1.out.chain0 (Nat.le_refl _) hk
      have V3 := Lib.hid (V1.out.keep0 hk)
      clear hk d1
      go_wp2_with fail
      refine (decode_r _ X m c (enc b) (b, 0) HD.out HO.out hm V3.out).mono ?_
      rintro e w4 ⟨rfl, hk⟩
      have K4 : Hid (Keep w.heap.size [] w w4) := K3.out.chain0 (Nat.le_refl _) hk
      have V4 := Lib.hid (V3.out.keep0 hk)
      clear hk
      go_wp2_with fail
      refine (encode_yes _ b HB.out).mono ?_
      rintro e w5 ⟨F, c5, rfl, hs, hk, _⟩
      have K5 : Hid (Keep w.heap.size [] w w5) := (K4.out.alloc K4.out.size _).chain0 (Nat.le_refl _) hk
      have V5 := Lib.hid ((V4.out.alloc _).keep0 hk)
      have VF := Lib.hid (hs.vw (by omega))
      have H5 := Lib.hid ((Blk.new w4 24 (acells b)).keepS hk (by simp))
      have d5 := abox4 H5.out
      clear hk hs
      go_wp2_with fail
      refine (valid_k _ b true HB.out).mono ?_
      rintro e w6 ⟨rfl, hk⟩
      have K6 : Hid (Keep w.heap.size [] w w6) := K5.out.chain0 (Nat.le_refl _) hk
      have d6 := S2_of c5 c (VF.out.keep0 hk) (V5.out.keep0 hk) (H5.out.keepS hk (by simp))
      clear hk d5
      go_wp2_with fail
      refine (alive_any _).mono ?_
      rintro e w7 ⟨rfl, hk⟩
      have K7 : Hid (Keep w.heap.size [] w w7) := K6.out.chain0 (Nat.le_refl _) hk
      clear hk
      go_wp2_with fail
      go_ret
      exact ⟨rfl, K7.out⟩
  | true =>
    have HA := Lib.hid hval
    clear hval
    rcases hdc with ⟨x0, hd, he0⟩ | ⟨b, hd, hb, hen, hlen⟩
    · have HD := Lib.hid hd
      clear hd
      go_enter Try.func5, Try.ntmps5
      go_wp2_with fail
      refine (encode_yes _ a HA.out).mono ?_
      rintro e w1 ⟨E, c1, rfl, hs, hk, _⟩
      have K1 : Hid (Keep w.heap.size [] w w1) := ((Keep.refl _ _ w).alloc (Nat.le_refl _) _).chain0 (Nat.le_refl _) hk
      have V1 := Lib.hid ((HV.out.alloc _).keep0 hk)
      have VE := Lib.hid (hs.vw (by omega))
      have H1 := Lib.hid ((Blk.new w 24 (acells a)).keepS hk (by simp))
      have d1 := abox4 H1.out
      clear hk hs
      go_wp2_with fail
      refine (decode_r _ E 5 c1 (enc a) (a, 0) (dec_enc a HA.out) (enc_oct a HA.out) (by omega) VE.out).mono ?_
      rintro e w2 ⟨rfl, hk⟩
      have K2 : Hid (Keep w.heap.size [] w w2) := K1.out.chain0 (Nat.le_refl _) hk
      have V2 := Lib.hid (V1.out.keep0 hk)
      have H2 := Lib.hid (H1.out.keepS hk (by simp))
      have e0 : ∀ o : Obj, (w2.alloc o).cell? ⟨w.heap.size, 0, none⟩ = some (.int .i64 a.src) := fun o => (H2.out.alloc o).cell 0
      have e1 : ∀ o : Obj, (w2.alloc o).cell? ⟨w.heap.size, 1, none⟩ = some (.int .i64 a.num) := fun o => (H2.out.alloc o).cell 1
      have e2 : ∀ o : Obj, (w2.alloc o).cell? ⟨w.heap.size, 2, none⟩ = some (.int .i64 a.stg) := fun o => (H2.out.alloc o).cell 2
      have e3 : ∀ o : Obj, (w2.alloc o).cell? ⟨w.heap.size, 3, none⟩ = some (.int .i64 a.cod) := fun o => (H2.out.alloc o).cell 3
      clear hk d1 VE
      go_wp2_with fail
      refine (valid_k _ a true HA.out).mono ?_
      rintro e w3 ⟨rfl, hk⟩
      have K3 : Hid (Keep w.heap.size [] w w3) := (K2.out.alloc K2.out.size _).chain0 (Nat.le_refl _) hk
      have V3 := Lib.hid ((V2.out.alloc _).keep0 hk)
      clear hk e0 e1 e2 e3
      go_wp2_with fail
      refine (decode_zk _ X m c L x0 HD.out HO.out hm V3.out).mono ?_
      rintro e w4 ⟨rfl, hk⟩
      have K4 : Hid (Keep w.heap.size [] w w4) := K3.out.chain0 (Nat.le_refl _) hk
      clear hk
      go_wp2_with fail
      refine (alive_any _).mono ?_
      rintro e w5 ⟨rfl, hk⟩
      have K5 : Hid (Keep w.heap.size [] w w5) := (K4.out.alloc K4.out.size _).chain0 (Nat.le_refl _) hk
      clear hk
      go_wp2_with fail
      go_ret
      exact ⟨rfl, K5.out⟩
    · subst hen
      have HD := Lib.hid hd
      have HB := Lib.hid hb
      clear hd hb hlen
      go_enter Try.func5, Try.ntmps5
      go_wp2_with fail
      refine (encode_yes _ a HA.out).mono ?_
      rintro e w1 ⟨E, c1, rfl, hs, hk, _⟩
      have K1 : Hid (Keep w.heap.size [] w w1) := ((Keep.refl _ _ w).alloc (Nat.le_refl _) _).chain0 (Nat.le_refl _) hk
      have V1 := Lib.hid ((HV.out.alloc _).keep0 hk)
      have VE := Lib.hid (hs.vw (by omega))
      have H1 := Lib.hid ((Blk.new w 24 (acells a)).keepS hk (by simp))
      have d1 := abox4 H1.out
      clear hk hs
      go_wp2_with fail
      refine (decode_r _ E 5 c1 (enc a) (a, 0) (dec_enc a HA.out) (enc_oct a HA.out) (by omega) VE.out).mono ?_
      rintro e w2 ⟨rfl, hk⟩
      have K2 : Hid (Keep w.heap.size [] w w2) := K1.out.chain0 (Nat.le_refl _) hk
      have V2 := Lib.hid (V1.out.keep0 hk)
      have H2 := Lib.hid (H1.out.keepS hk (by simp))
      have e0 : ∀ o : Obj, (w2.alloc o).cell? ⟨w.heap.size, 0, none⟩ = some (.int .i64 a.src) := fun o => (H2.out.alloc o).cell 0
      have e1 : ∀ o : Obj, (w2.alloc o).cell? ⟨w.heap.size, 1, none⟩ = some (.int .i64 a.num) := fun o => (H2.out.alloc o).cell 1
      have e2 : ∀ o : Obj, (w2.alloc o).cell? ⟨w.heap.size, 2, none⟩ = some (.int .i64 a.stg) := fun o => (H2.out.alloc o).cell 2
      have e3 : ∀ o : Obj, (w2.alloc o).cell? ⟨w.heap.size, 3, none⟩ = some (.int .i64 a.cod) := fun o => (H2.out.alloc o).cell 3
      clear hk d1 VE
      go_wp2_with fail
      refine (valid_k _ a true HA.out).mono ?_
      rintro e w3 ⟨rfl, hk⟩
      have K3 : Hid (Keep w.heap.size [] w w3) := (K2.out.alloc K2.out.size _).chain0 (Nat.le_refl _) hk
      have V3 := Lib.hid ((V2.out.alloc _).keep0 hk)
      clear hk e0 e1 e2 e3
      go_wp2_with fail
      refine (decode_r _ X m c (enc b) (b, 0) HD.out HO.out hm V3.out).mono ?_
      rintro e w4 ⟨rfl, hk⟩
      have K4 : Hid (Keep w.heap.size [] w w4) := K3.out.chain0 (Nat.le_refl _) hk
      have V4 := Lib.hid (V3.out.keep0 hk)
      clear hk
      go_wp2_with fail
      refine (encode_yes _ b HB.out).mono ?_
      rintro e w5 ⟨F, c5, rfl, hs, hk, _⟩
      have K5 : Hid (Keep w.heap.size [] w w5) := (K4.out.alloc K4.out.size _).chain0 (Nat.le_refl _) hk
      have V5 := Lib.hid ((V4.out.alloc _).keep0 hk)
      have VF := Lib.hid (hs.vw (by omega))
      have H5 := Lib.hid ((Blk.new w4 24 (acells b)).keepS hk (by simp))
      have d5 := abox4 H5.out
      clear hk hs
      go_wp2_with fail
      refine (valid_k _ b true HB.out).mono ?_
      rintro e w6 ⟨rfl, hk⟩
      have K6 : Hid (Keep w.heap.size [] w w6) := K5.out.chain0 (Nat.le_refl _) hk
      have d6 := S2_of c5 c (VF.out.keep0 hk) (V5.out.keep0 hk) (H5.out.keepS hk (by simp))
      clear hk d5
      go_wp2_with fail
      refine (alive_any _).mono ?_
      rintro e w7 ⟨rfl, hk⟩
      have K7 : Hid (Keep w.heap.size [] w w7) := K6.out.chain0 (Nat.le_refl _) hk
      clear hk
      go_wp2_with fail
      go_ret
      exact ⟨rfl, K7.out⟩
end Go.Proofs.Ytnppgeggcaigjaa
