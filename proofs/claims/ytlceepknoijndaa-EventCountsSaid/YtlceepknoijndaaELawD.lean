/- Counts: the walk of the law. -/
import Derived.Test.YtlceepknoijndaaELawC
namespace Go.Proofs.Ytlceepknoijndaa
set_option linter.unusedVariables false
set_option linter.unusedSimpArgs false
open Go.RowKit
theorem en_any (s : St) (id : Int) (hk : knP id = true) (hl : s.off.length < 256) : ∃ l, enP s id false = (setOff s l, 0) ∧ l.length ≤ s.off.length + 1 ∧ ∀ x, x ∈ l ↔ x ∈ s.off ∨ x = id := by
  by_cases h : id ∈ s.off
  · refine ⟨s.off, en_old hk h, by omega, fun x => ⟨.inl, fun h2 => ?_⟩⟩
    rcases h2 with h2 | h2
    · exact h2
    · rw [h2]; exact h
  · exact ⟨s.off ++ [id], en_new hk h hl, by simp, fun x => by simp⟩
theorem SW.drew {w W : World} {g r : Nat} {A : Option Addr} {n c : Nat} {s : St} (h : SW w W g r A n c s) : SW w W.drew g r A n c s :=
  ⟨h.keep.drew, ⟨h.sv.blk, h.sv.sl, h.sv.len, h.sv.mp, h.sv.gr, h.sv.gA, h.sv.rA⟩, h.hg, h.hr, h.hA⟩
def sC (l : List Int) : St := ⟨10, [], 0, 0, 0, 0, 0, l⟩
set_option maxRecDepth 100000 in
set_option maxHeartbeats 8000000 in
theorem counts_any (w : World) (X : Option Addr) (n c : Nat) (L : List Int) (hO : Oct L) (hnc : n ≤ c) (hcm : c ≤ maxLen) (hv : Vw w X n 1 (octs L)) (X2 : Option Addr) (n2 c2 : Nat) (L2 : List Int) (hO2 : Oct L2) (hnc2 : n2 ≤ c2) (hcm2 : c2 ≤ maxLen) (hv2 : Vw w X2 n2 1 (octs L2)) :
    Calls Try.prog 3 #[.slice X n c, .slice X2 n2 c2] w (LawPost w) := by
  have HV := Lib.hid hv
  have HV2 := Lib.hid hv2
  have HO := Lib.hid hO
  have HO2 := Lib.hid hO2
  have HL2 : Hid (n2 = L2.length) := Lib.hid (by have := hv2.1; simp [octs] at this; omega)
  have hncI : (n : Int) ≤ (c : Int) := by omega
  have hncI2 : (n2 : Int) ≤ (c2 : Int) := by omega
  clear hv hv2 hO hO2
  by_cases hb : 300 < n
  · have hb' : (300 : Int) < (n : Int) := by omega
    go_enter Try.func3, Try.ntmps3
    go_wp2_with fail
    refine (alive_any _).mono ?_
    rintro e w1 ⟨rfl, hk⟩
    have K1 := Lib.hid hk
    clear hk
    go_wp2_with fail
    go_ret
    exact ⟨rfl, K1.out⟩
  have hb' : (n : Int) ≤ 300 := by omega
  by_cases hb2 : 100 < n2
  · have hb2' : (100 : Int) < (n2 : Int) := by omega
    go_enter Try.func3, Try.ntmps3
    go_wp2_with fail
    refine (alive_any _).mono ?_
    rintro e w1 ⟨rfl, hk⟩
    have K1 := Lib.hid hk
    clear hk
    go_wp2_with fail
    go_ret
    exact ⟨rfl, K1.out⟩
  have hb2' : (n2 : Int) ≤ 100 := by omega
  go_enter Try.func3, Try.ntmps3
  go_wp2_with fail
  refine (new_any _ 10 10 (by decide)).mono ?_
  rintro e w1 ⟨rfl, hs, hk⟩
  have S1 : Hid (SW w w1 (w.heap.size + 1) w.heap.size none 0 0 (sC [])) := Lib.hid ⟨hk, hs, by omega, by omega, by simp [blks]⟩
  clear hs hk
  obtain ⟨g, hg⟩ : ∃ g, w.heap.size + 1 = g := ⟨_, rfl⟩
  obtain ⟨r, hr⟩ : ∃ r, w.heap.size = r := ⟨_, rfl⟩
  rw [hg] at S1 ⊢
  have S1' : Hid (SW w w1 g r none 0 0 (sC [])) := by rw [← hr]; exact S1
  clear hg hr S1
  go_wp2_with fail
  go_loopw [6] (fun i wr => ∃ (k : Nat) (l : List Int), k ≤ n2 ∧ i = .int .i64 k ∧ l.length ≤ k ∧ (∀ x, x ∈ l ↔ x ∈ L2.take k) ∧ SW w wr g r none 0 0 (sC l)) (fun i _ => n2 - (intOf i).toNat)
  case atStart => exact ⟨0, [], Nat.zero_le _, rfl, Nat.le_refl _, fun x => by simp, S1'.out⟩
  case round =>
    obtain ⟨k, l, hk, rfl, hll, hmem, hs⟩ := hrel
    have S := Lib.hid hs
    have HM := Lib.hid hmem
    clear hs hmem
    by_cases hlt : k < n2
    · have hkx : (k : Int) < (n2 : Int) := by omega
      obtain ⟨bb, o, y, rfl, hy, _⟩ := vw_nth HV2.out hlt
      have c1 := vw_at (HV2.out.keep0 S.out.keep) hy
      have hyo := HO2.out y (List.mem_of_getElem? hy)
      obtain ⟨hy0, hy1⟩ := hyo
      have HY := Lib.hid hy
      obtain ⟨l', he, hl', hm'⟩ := en_any (sC l) y (knP_in hy0 (by omega)) (by show l.length < 256; omega)
      have HE := Lib.hid he
      have HM' := Lib.hid hm'
      have hl'' : l'.length ≤ k + 1 := Nat.le_trans hl' (by show l.length + 1 ≤ k + 1; omega)
      clear hy he hm' hl'
      go_wp2_with fail
      refine (enable_any _ g r none 0 0 _ _ y false 0 HE.out S.out.sv).mono ?_
      rintro e w2 ⟨rfl, hs, hk2⟩
      have S2 : Hid (SW w w2 g r none 0 0 (sC l')) := Lib.hid (S.out.enable hs hk2)
      clear hs hk2
      go_wp2_with fail
      go_roundw
      case rel => exact ⟨k + 1, l', by omega, by go_num, hl'', fun x => by rw [HM'.out x, mem_take_succ HY.out]; exact or_congr (HM.out x) Iff.rfl, S2.out⟩
      case measure => simp [intOf]; omega
    · obtain rfl : k = n2 := by omega
      have HMM : Hid (∀ x, x ∈ l ↔ x ∈ L2) := Lib.hid (fun x => by rw [HM.out x, List.take_of_length_le (by rw [HL2.out]; exact Nat.le_refl _)])
      have hlen0 : (sC l).L.length = 0 := rfl
      clear HM
      go_wp2_with fail
      obtain ⟨w3, rfl⟩ : ∃ x, x = wr := ⟨_, rfl⟩
      go_loopw [7, 8, 9] (fun i _ _ wr => ∃ (q : Nat) (s : St) (A : Option Addr) (m cp : Nat), q ≤ n ∧ i = .int .i64 q ∧ CK s q l ∧ SW w wr g r A m cp s) (fun i _ _ _ => n - (intOf i).toNat)
      case atStart => exact ⟨0, sC l, none, 0, 0, Nat.zero_le _, rfl, ⟨rfl, rfl, Int.le_refl 0, Int.le_refl 0, Int.le_refl 0, Int.le_refl 0, rfl, rfl⟩, S.out⟩
      case round =>
        obtain ⟨q, s, A, m, cp, hq, rfl, hck, hs⟩ := hrel
        have T := Lib.hid hs
        have CC := Lib.hid hck
        clear hs hck
        by_cases hltq : q < n
        · have hqx : (q : Int) < (n : Int) := by omega
          obtain ⟨bb, o, y, rfl, hy, _⟩ := vw_nth HV.out hltq
          have c1 := vw_at (HV.out.keep0 T.out.keep).drew hy
          have hyo := HO.out y (List.mem_of_getElem? hy)
          obtain ⟨hy0, hy1⟩ := hyo
          have HY := Lib.hid hy
          obtain ⟨p, hp⟩ : ∃ p : Nat, y % 4 + 1 = (p : Int) := ⟨(y % 4 + 1).toNat, by omega⟩
          have hp1 : 1 ≤ p := by omega
          have hp4 : p ≤ 4 := by omega
          have hcn := CC.out.cnt p hp1 hp4
          have hlq : s.L.length < 1000 := by have := CC.out.len; omega
          have hmo := CC.out.most
          have HLEN := Lib.hid hlq
          have HMO : Hid (0 ≤ s.most ∧ s.most ≤ 256) := Lib.hid (by omega)
          have HCN : Hid (0 ≤ cntP s p ∧ cntP s p < 1000000) := Lib.hid (by omega)
          obtain ⟨bo, hbo⟩ : ∃ b, decide (y ∈ L2) = b := ⟨_, rfl⟩
          have hbo2 : (!decide (y ∈ s.off)) = !bo := by
            rw [CC.out.off, ← hbo]
            congr 1
            exact decide_eq_decide.2 (HMM.out y)
          have HBO := Lib.hid hbo
          have HBO2 := Lib.hid hbo2
          have hm4 : y.tmod 4 = y % 4 := Int.tmod_eq_emod_of_nonneg hy0
          have hu8 : IntKind.u8.wrap (y % 4) = y % 4 := by rw [IntKind.wrap_u8']; omega
          have hi1 : IntKind.i64.wrap y = y := by rw [IntKind.wrap_i64]; omega
          have hi2 : IntKind.i64.wrap (y % 4) = y % 4 := by rw [IntKind.wrap_i64]; omega
          have hi3 : IntKind.i64.wrap (y % 4 + 1) = y % 4 + 1 := by rw [IntKind.wrap_i64]; omega
          have HP := Lib.hid hp
          have TD := Lib.hid T.out.drew
          clear hy hcn hlq hmo hbo hbo2 hp
          go_wp2_with fail
          go_region_held3 (fun w' => w'.cell? ⟨bb, o + q, none⟩ = some (.int .u8 y))
            (first | with_reducible exact c1 | with_reducible exact cz)
            (first
              | (go_at_call 10
                 refine (raise_v wr.drew g r A m cp s (Go.Proofs.Ytlceepknoijndaa.bump s p (keepL s ⟨(q : Int), y, y % 4 + 1, 0⟩)) ⟨(q : Int), y, y % 4 + 1, 0⟩ p (!bo) hp1 hp4 HP.out (by simp only; omega) (by simp only; omega) (knP_in (by simp only; omega) (by simp only; omega)) TD.out.sv HCN.out.1 HCN.out.2 HLEN.out HMO.out.1 HMO.out.2 rfl HBO2.out).mono ?_
                 rintro e w5 ⟨A5, m5, cp5, rfl, hs, hk, hb⟩
                 have T5 := Lib.hid (TD.out.raise hs hk hb)
                 have cz := vw_at (HV.out.keep0 T5.out.keep) HY.out
                 clear hs hk hb))
          clear c1
          go_wp2_with fail
          refine (has_any _ X2 k c2 L2 y bo (by omega) hnc2 (HV2.out.keep0 T5.out.keep) HBO.out).mono ?_
          rintro e w' ⟨rfl, rfl⟩
          cases bo with
          | true =>
            go_wp2_with fail
            go_roundw
            case rel => exact ⟨q + 1, _, A5, m5, cp5, by omega, by go_num, CC.out.bump p hp1 hp4 _, T5.out⟩
            case measure => simp [intOf]; omega
          | false =>
            go_wp2_with fail
            go_roundw
            case rel => exact ⟨q + 1, _, A5, m5, cp5, by omega, by go_num, CC.out.bump p hp1 hp4 _, T5.out⟩
            case measure => simp [intOf]; omega
        · obtain rfl : q = n := by omega
          have hsum := CC.out.sum
          have hlen := CC.out.len
          have hml := T.out.sv.len
          have a0 := CC.out.a0; have b0 := CC.out.b0; have d0 := CC.out.d0; have e0 := CC.out.e0
          have hmin : min (q : Int) 10 = (m : Int) := by omega
          have hm10 : m ≤ 10 := by omega
          clear hlen hml
          go_wp2_with fail
          refine (count_any _ g r A m cp s 1 s.c1 rfl T.out.sv).mono ?_
          rintro e w' ⟨rfl, rfl⟩
          go_wp2_with fail
          refine (count_any _ g r A m cp s 2 s.c2 rfl T.out.sv).mono ?_
          rintro e w' ⟨rfl, rfl⟩
          go_wp2_with fail
          refine (count_any _ g r A m cp s 3 s.c3 rfl T.out.sv).mono ?_
          rintro e w' ⟨rfl, rfl⟩
          go_wp2_with fail
          refine (count_any _ g r A m cp s 4 s.c4 rfl T.out.sv).mono ?_
          rintro e w' ⟨rfl, rfl⟩
          go_wp2_with fail
          refine (recent_any _ g r A m cp s (by omega) T.out.sv).mono ?_
          rintro e w6 ⟨A6, c6, rfl, _, hk6, _⟩
          have T6 := Lib.hid (T.out.next hk6)
          clear hk6
          by_cases h10 : (q : Int) ≤ 10
          · have hmq : (m : Int) = (q : Int) := by omega
            clear hmin
            go_wp2_with fail
            refine (alive_any _).mono ?_
            rintro e w7 ⟨rfl, hk7⟩
            have T7 := Lib.hid (T6.out.next hk7)
            clear hk7
            go_wp2_with fail
            go_ret
            exact ⟨rfl, T7.out.keep⟩
          · have hmq : (m : Int) = 10 := by omega
            have h11 : 10 < (q : Int) := by omega
            clear hmin h10
            go_wp2_with fail
            refine (alive_any _).mono ?_
            rintro e w7 ⟨rfl, hk7⟩
            have T7 := Lib.hid (T6.out.next hk7)
            clear hk7
            go_wp2_with fail
            go_ret
            exact ⟨rfl, T7.out.keep⟩
end Go.Proofs.Ytlceepknoijndaa
