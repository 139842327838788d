/- ranges.Missing, Has, Size; filesum. -/
import Derived.Test.YtfkbcflgbjncdaaTxH
namespace Go.Proofs.Ytfkbcflgbjncdaa
set_option linter.unusedVariables false
set_option linter.unusedSimpArgs false
open Go.RowKit
theorem nrm_take1 {l : List Gp} (h : Nrm l) (j : Nat) : Nrm (l.take j) := ⟨h.apart.sublist (List.take_sublist j l), fun r hr => h.full r (List.mem_of_mem_take hr)⟩
theorem mem_step {N : List Gp} {k : Nat} {r : Gp} (hr : N[k]? = some r) (z : Int) : mem (N.take (k + 1)) z ↔ mem (N.take k) z ∨ (r.f ≤ z ∧ z < r.t) := by
  rw [List.take_add_one, hr, mem_app]; simp [mem_one]
set_option maxRecDepth 100000 in
set_option maxHeartbeats 2000000 in
theorem missing_w (w : World) (X : Option Addr) (m c : Nat) (L : List Gp) (t : Int) (hm : m ≤ 20000) (h0 : 0 ≤ t) (ht : t ≤ 1000) (hv : Vw w X m 2 (gcs L)) : Calls Try.prog 102 #[.slice X m c, .int .i64 t] w (RnPost w (fun z => (0 ≤ z ∧ z < t) ∧ ¬ mem L z) 1000) := by
  have hml : m = L.length := by have := hv.1; rw [gcells_len] at this; omega
  have HV := Lib.hid hv
  have HML := Lib.hid hml
  clear hv hml
  go_enter Try.func102, Try.ntmps102
  go_wp2_with fail
  have hka : Keep w.heap.size [] w (w.alloc (.cells #[.int .i64 0, .int .i64 t] TG)) := (Keep.refl _ _ _).alloc (Nat.le_refl _) _
  refine (normal_r _ _ 1 1 [⟨0, t⟩] (by omega) (by exact Vw.ofBlk (Blk.new w TG #[.int .i64 0, .int .i64 t]) rfl)).mono ?_
  rintro e w1 ⟨A1, c1, N1, rfl, hs1, hn1, hm1, hl1, hk1, hb1⟩
  have S1 := Lib.hid hs1
  have N1H := Lib.hid hn1
  have M1 := Lib.hid hm1
  have L1 := Lib.hid hl1
  have K1 : Hid (Keep w.heap.size [] w w1) := Lib.hid (hka.chain0 (Nat.le_refl _) hk1)
  have B1 : Hid (∀ y, y ∈ blks A1 → w.heap.size ≤ y) := Lib.hid (fun y hy => Nat.le_trans hka.size (hb1 y hy))
  clear hs1 hn1 hm1 hl1 hk1 hb1 hka
  go_wp2_with fail
  refine (normal_r _ X m c L (by omega) (by exact HV.out.keep0 K1.out)).mono ?_
  rintro e w2 ⟨A2, c2, N, rfl, hs2, hn2, hm2, hl2, hk2, hb2⟩
  have S2 := Lib.hid hs2
  have N2H := Lib.hid hn2
  have M2 := Lib.hid hm2
  have L2 := Lib.hid hl2
  have K2 : Hid (Keep w.heap.size [] w w2) := Lib.hid (K1.out.chain0 (Nat.le_refl _) hk2)
  have T2 : Hid (Sl w2 TG 2 A1 N1.length c1 (gcs N1)) := Lib.hid (S1.out.keep0 hk2)
  clear hs2 hn2 hm2 hl2 hk2 hb2
  have hcap := S2.out.cap
  have hNl : N.length ≤ 20000 := by have := L2.out; have := HML.out; omega
  go_wp2_with fail
  go_loopw [5, 15] (fun oo jj wr => ∃ (k : Nat) (A : Option Addr) (c : Nat) (O : List Gp), k ≤ N.length ∧ jj = .int .i64 k ∧ oo = .slice A O.length c ∧ Sl wr TG 2 A O.length c (gcs O) ∧ Nrm O ∧ (∀ z, mem O z ↔ (0 ≤ z ∧ z < t) ∧ ¬ mem (N.take k) z) ∧ Keep w2.heap.size [] w2 wr ∧ ∀ y, y ∈ blks A → w.heap.size ≤ y) (fun _ jj _ => N.length - (intOf jj).toNat)
  case atStart => exact ⟨0, A1, c1, N1, Nat.zero_le _, rfl, rfl, T2.out, N1H.out, (fun z => by rw [M1.out, mem_one]; simp [mem_nil]), Keep.refl _ _ _, B1.out⟩
  case round =>
    obtain ⟨k, A, cN, O, hk, rfl, rfl, hsl, hnr, hmem, hkw, hbA⟩ := hrel
    have SL := Lib.hid hsl
    have NR := Lib.hid hnr
    have ME := Lib.hid hmem
    have KW := Lib.hid hkw
    have BA := Lib.hid hbA
    have hOl : (O.length : Int) ≤ t - 0 := nrm_len hnr (fun z hz => ((hmem z).1 hz).1) h0
    clear hsl hmem hkw hbA hnr
    by_cases hlt : k < N.length
    · have hki : (k : Int) < (N.length : Int) := by omega
      obtain ⟨b2, o', r, rfl, hrk, d0, d1⟩ := gap_at ((S2.out.vw (by omega)).keep0 KW.out) hlt
      have RK := Lib.hid hrk
      have hfull := N2H.out.full r (List.mem_of_getElem? hrk)
      obtain ⟨W1, hW1⟩ : ∃ W, W = wr.alloc (.cells #[.int .i64 r.f, .int .i64 r.t] TG) := ⟨_, rfl⟩
      obtain ⟨p, hp⟩ : ∃ p, p = wr.heap.size := ⟨_, rfl⟩
      have ka : Keep wr.heap.size [] wr W1 := by rw [hW1]; exact (Keep.refl _ _ _).alloc (Nat.le_refl _) _
      have Q1 : Hid (Blk W1 p TG #[.int .i64 r.f, .int .i64 r.t]) := Lib.hid (by rw [hW1, hp]; exact Blk.new _ _ _)
      have SL1 := Lib.hid (SL.out.keep0 ka)
      have KW1 := Lib.hid (KW.out.chain0 (Nat.le_refl _) ka)
      have x0 : W1.cell? ⟨p, 0, none⟩ = some (.int .i64 r.f) := Q1.out.cell 0
      have x1 : W1.cell? ⟨p, 1, none⟩ = some (.int .i64 r.t) := Q1.out.cell 1
      clear hrk ka
      go_upto_region 5 with fail
      change Code.wp _ _ _ _ (wr.alloc (.cells #[.int .i64 r.f, .int .i64 r.t] TG))
      rw [← hW1, ← hp]
      clear hW1 hp
      go_wp2_with fail
      refine (remove_w _ A O.length cN O r (by omega) hfull (by exact SL1.out.vw (by omega))).mono ?_
      rintro e w3 ⟨A3, c3, N3, rfl, hs3, hn3, hm3, hl3, hk3, hb3⟩
      have S3 := Lib.hid hs3
      have N3H := Lib.hid hn3
      have M3 := Lib.hid hm3
      have K3 : Hid (Keep w2.heap.size [] w2 w3) := Lib.hid (KW1.out.chain0 (Nat.le_refl _) hk3)
      have B3 : Hid (∀ y, y ∈ blks A3 → w.heap.size ≤ y) := Lib.hid (fun y hy => Nat.le_trans K2.out.size (Nat.le_trans KW1.out.size (hb3 y hy)))
      clear hs3 hn3 hm3 hl3 hk3 hb3
      go_wp2_with fail
      go_roundw
      case rel =>
        refine ⟨k + 1, A3, c3, N3, by omega, by go_num, rfl, S3.out, N3H.out, (fun z => ?_), K3.out, B3.out⟩
        rw [M3.out, ME.out, mem_step RK.out, not_or, and_assoc]
      case measure => simp [intOf] <;> omega
    · obtain rfl : k = N.length := by omega
      go_wp2_with fail
      go_ret
      refine ⟨A, cN, O, rfl, SL.out, NR.out, fun z => ?_, by omega, K2.out.trans (KW.out.mono K2.out.size (by simp)), BA.out⟩
      rw [ME.out, List.take_length, M2.out]
theorem width_w (w : World) (g : Gp) (h0 : 0 ≤ g.f) (h1 : g.f ≤ g.t) (h2 : g.t ≤ 1000000) : Calls Try.prog 153 #[.agg #[.int .i64 g.f, .int .i64 g.t]] w fun e w' => e = .returned (.int .u64 (g.t - g.f)) ∧ Keep w.heap.size [] w w' := by
  have e1 : IntKind.u64.wrap g.t = g.t := by rw [IntKind.wrap_u64]; omega
  have e2 : IntKind.u64.wrap g.f = g.f := by rw [IntKind.wrap_u64]; omega
  have e3 : IntKind.u64.wrap (g.t - g.f) = g.t - g.f := by rw [IntKind.wrap_u64]; omega
  go_enter Try.func153, Try.ntmps153
  go_wp2_with fail
  go_ret
  exact ⟨rfl, (Keep.refl _ _ _).alloc (Nat.le_refl _) _⟩
theorem width_step {N : List Gp} {k : Nat} {r : Gp} (hr : N[k]? = some r) : width (N.take (k + 1)) = width (N.take k) + (r.t - r.f) := by
  unfold width
  rw [List.take_add_one, hr]
  simp
set_option maxRecDepth 100000 in
set_option maxHeartbeats 2000000 in
theorem size_w (w : World) (X : Option Addr) (m c : Nat) (L : List Gp) (M : Nat) (hm : m ≤ 20000) (hM : M ≤ 1000) (hL : Nrm L) (hb : ∀ z, mem L z → 0 ≤ z ∧ z < M) (hv : Vw w X m 2 (gcs L)) : Calls Try.prog 134 #[.slice X m c] w fun e w' => e = .returned (.int .i64 (width L)) ∧ Keep w.heap.size [] w w' := by
  have hml : m = L.length := by have := hv.1; rw [gcells_len] at this; omega
  have HV := Lib.hid hv
  have HML := Lib.hid hml
  have HL := Lib.hid hL
  have HB := Lib.hid hb
  have hw0 := width_nn hL
  have hw1 := (width_le (a := 0) (N := M) hL hb (by omega)).1
  clear hv hml hL hb
  go_enter Try.func134, Try.ntmps134
  go_wp2_with fail
  refine (normal_r _ X m c L (by omega) (by exact HV.out)).mono ?_
  rintro e w1 ⟨A1, c1, N, rfl, hs1, hn1, hm1, hl1, hk1, hb1⟩
  have hNL : N = L := nrm_unique hn1 HL.out hm1
  subst hNL
  have S1 := Lib.hid hs1
  have K1 := Lib.hid hk1
  have L1 := Lib.hid hl1
  clear hs1 hn1 hm1 hl1 hk1 hb1
  have hcap := S1.out.cap
  have hNl : N.length ≤ 20000 := by have := HML.out; omega
  go_wp2_with fail
  go_loopw [3, 9] (fun oo jj wr => ∃ (k : Nat), k ≤ N.length ∧ jj = .int .i64 k ∧ oo = .int .u64 (width (N.take k)) ∧ Keep w1.heap.size [] w1 wr) (fun _ jj _ => N.length - (intOf jj).toNat)
  case atStart => exact ⟨0, Nat.zero_le _, rfl, rfl, Keep.refl _ _ _⟩
  case round =>
    obtain ⟨k, hk, rfl, rfl, hkw⟩ := hrel
    have KW := Lib.hid hkw
    clear hkw
    by_cases hlt : k < N.length
    · have hki : (k : Int) < (N.length : Int) := by omega
      obtain ⟨b2, o', r, rfl, hrk, d0, d1⟩ := gap_at ((S1.out.vw (by omega)).keep0 KW.out) hlt
      have hfull := HL.out.full r (List.mem_of_getElem? hrk)
      have hf0 := HB.out r.f ⟨r, List.mem_of_getElem? hrk, Int.le_refl _, hfull⟩
      have hf1 := HB.out (r.t - 1) ⟨r, List.mem_of_getElem? hrk, by omega, by omega⟩
      have hws := width_step hrk
      have hwn := width_nn (nrm_take1 HL.out (k + 1))
      have hwm := (width_le (a := 0) (N := M) (nrm_take1 HL.out (k + 1)) (fun z hz => HB.out z (by obtain ⟨x, hx, h⟩ := hz; exact ⟨x, List.mem_of_mem_take hx, h⟩)) (by omega)).1
      have WS := Lib.hid hws
      obtain ⟨v, hve⟩ : ∃ v, v = width (N.take k) := ⟨_, rfl⟩
      have hvn : 0 ≤ v := by rw [hve]; exact width_nn (nrm_take1 HL.out k)
      rw [← hve] at hws ⊢
      have e1 : IntKind.u64.wrap (v + (r.t - r.f)) = v + (r.t - r.f) := by rw [IntKind.wrap_u64]; omega
      have HVE := Lib.hid hve
      clear hve hws hrk hwn hwm
      go_upto_region 5 with fail
      have x0 : (wr.alloc (.cells #[.int .i64 r.f, .int .i64 r.t] TG)).cell? ⟨wr.heap.size, 0, none⟩ = some (.int .i64 r.f) := (Blk.new wr TG #[.int .i64 r.f, .int .i64 r.t]).cell 0
      have x1 : (wr.alloc (.cells #[.int .i64 r.f, .int .i64 r.t] TG)).cell? ⟨wr.heap.size, 1, none⟩ = some (.int .i64 r.t) := (Blk.new wr TG #[.int .i64 r.f, .int .i64 r.t]).cell 1
      go_wp2_with fail
      refine (width_w _ r hf0.1 (by omega) (by omega)).mono ?_
      rintro e w3 ⟨rfl, hk3⟩
      have K3 : Hid (Keep w1.heap.size [] w1 w3) := Lib.hid ((KW.out.alloc KW.out.size _).chain0 (Nat.le_refl _) hk3)
      clear hk3
      go_wp2_with fail
      go_roundw
      case rel =>
        refine ⟨k + 1, by omega, by go_num, ?_, K3.out⟩
        rw [WS.out, HVE.out]
      case measure => simp [intOf] <;> omega
    · obtain rfl : k = N.length := by omega
      rw [List.take_length]
      obtain ⟨v, hve⟩ : ∃ v, v = width N := ⟨_, rfl⟩
      rw [← hve] at hw0 hw1 ⊢
      have e0 : min v 9223372036854775807 = v := by omega
      have e1 : IntKind.i64.wrap v = v := by rw [IntKind.wrap_i64]; omega
      have HVE := Lib.hid hve
      clear hve
      go_wp2_with fail
      go_ret
      exact ⟨by rw [← HVE.out]; rfl, K1.out.trans (KW.out.mono K1.out.size (by simp))⟩
end Go.Proofs.Ytfkbcflgbjncdaa
