/- The law OctetsBack: its walk. -/
import Derived.Test.YtalhojnkdcopeaaPuts
import Derived.Test.YtalhojnkdcopeaaOnce
namespace Go.Proofs.Ytalhojnkdcopeaa
set_option linter.unusedVariables false
set_option linter.unusedSimpArgs false
open Go.RowKit
def BackRel1 (w : World) (g : Nat) (l : List Vl) (k : Nat) (wr : World) : Prop := ∃ A, WT w wr g A ((l.take k).flatMap encV)
def BackRel (w : World) (g : Nat) (l : List Vl) (k : Nat) (wr : World) : Prop := ∃ X, Rd wr g X ((l.drop k).flatMap encV) ∧ Keep w.heap.size [] w wr ∧ (∀ x, x ∈ blks X → w.heap.size ≤ x)
theorem drop_flat (l : List Vl) (k : Nat) (v : Vl) (h : l[k]? = some v) : (l.drop k).flatMap encV = encV v ++ (l.drop (k + 1)).flatMap encV := by
  obtain ⟨h1, rfl⟩ := List.getElem?_eq_some_iff.1 h
  rw [List.drop_eq_getElem_cons h1, List.flatMap_cons]
theorem flat_oct {w : World} (l : List Vl) (hok : ∀ v ∈ l, VlOk w v) : Oct (l.flatMap encV) := by
  intro x hx
  obtain ⟨v, hv, hx⟩ := List.mem_flatMap.1 hx
  exact encV_oct v (hok v hv) x hx
theorem tkB_enc (m : Nat) (B M : List Int) (hB : B.length = m) (hm : m ≤ 200) : tkB (vn (zz m).toNat ++ B ++ M) 200 = (B, (vn (zz m).toNat).length + m) := by
  have h1 := tkI_vn (m : Int) (by omega) (by omega) (B ++ M)
  rw [← List.append_assoc] at h1
  have hp := vn_pos (zz m).toNat
  have h2 : tkC (vn (zz m).toNat ++ B ++ M) 200 = ((m : Int), (vn (zz m).toNat).length) := by
    unfold tkC
    rw [h1]
    simp only
    rw [if_neg (by omega)]
  unfold tkB
  rw [h2]
  simp only
  rw [if_neg (by simp only [List.length_append]; omega)]
  rw [List.append_assoc, List.drop_left]
  simp [← hB]
theorem takeuint_v (w : World) (X : Option Addr) (m c : Nat) (L : List Int) (V z : Int) (sz : Nat) (hz : z = (sz : Int)) (hV : beVal (L.take sz) = V) (hO : Oct L) (hv : Vw w X m 1 (octs L)) (h1 : 1 ≤ sz) (h8 : sz ≤ 8) (hle : sz ≤ L.length) :
    Calls Try.prog 21 #[.slice X m c, .int .i64 z] w fun e w' =>
      e = .returned (.tuple #[.int .u64 V, .int .i64 z]) ∧ w = w' := by
  subst hz; subst hV; exact takeuint_yes w X m c L hO hv sz h1 h8 hle
theorem ruint_v (w : World) (g : Nat) (X : Option Addr) (L M : List Int) (V z : Int) (sz : Nat) (hz : z = (sz : Int)) (hV : beVal (L.take sz) = V) (hM : L.drop sz = M) (hO : Oct L) (h1 : 1 ≤ sz) (h8 : sz ≤ 8) (hle : sz ≤ L.length) (hr : Rd w g X L) :
    Calls Try.prog 22 #[bptr g, .int .i64 z] w fun e w' =>
      e = .returned (.int .u64 V) ∧ ∃ X', Rd w' g X' M ∧ Keep w.heap.size [g] w w' ∧ blks X' = blks X := by
  subst hz; subst hV; subst hM; exact ruint_yes w g X L hO sz h1 h8 hle hr
set_option maxRecDepth 10000 in
set_option maxHeartbeats 8000000 in
theorem back_any (w : World) (A : Option Addr) (n c : Nat) (l : List Vl) (hnc : n ≤ c) (hcm : c ≤ maxLen) (hv : Vals w A n l) :
    Calls Try.prog 6 #[.slice A n c] w (LawPost w) := by
  have hcm' : (c : Int) ≤ 9223372036854775807 := by unfold maxLen at hcm; omega
  have hnc' : (n : Int) ≤ (c : Int) := by omega
  have HV := Lib.hid hv
  clear hv
  cases hlb : lightB l with
  | false =>
    have HLB := Lib.hid hlb
    clear hlb
    go_enter Try.func6, Try.ntmps6
    go_wp2_with fail
    refine (awake_any _).mono ?_
    rintro e w1 ⟨rfl, hk⟩
    have K1 := Lib.hid hk
    have HV1 := Lib.hid (HV.out.keep0 hk)
    clear hk
    go_wp2_with fail
    refine (light_b _ A n c l false HLB.out HV1.out hnc hcm).mono ?_
    rintro e w' ⟨rfl, rfl⟩
    go_wp2_with fail
    go_ret
    exact ⟨rfl, K1.out⟩
  | true =>
    have HLB := Lib.hid hlb
    obtain ⟨hl40, hm200⟩ := lightB_yes hlb
    have hn : n = l.length := HV.out.1
    have hn40 : (n : Int) ≤ 40 := by omega
    have HN := Lib.hid hn
    have HM := Lib.hid hm200
    clear hlb hl40 hm200 hn
    go_enter Try.func6, Try.ntmps6
    go_wp2_with fail
    refine (awake_any _).mono ?_
    rintro e w1 ⟨rfl, hk⟩
    have K1 := Lib.hid hk
    have HV1 := Lib.hid (HV.out.keep0 hk)
    clear hk
    go_wp2_with fail
    refine (light_b _ A n c l true HLB.out HV1.out hnc hcm).mono ?_
    rintro e w' ⟨rfl, rfl⟩
    go_wp2_with fail
    refine (wnew_any _).mono ?_
    rintro e w2 ⟨g0, rfl, hg, hw, hk⟩
    have W2 : Hid (WT w w2 g0 none []) := ⟨K1.out.chain0 (Nat.le_refl _) hk, hw, Nat.le_trans K1.out.size hg, by simp [blks]⟩
    clear hg hw hk
    go_wp2_with fail
    go_loopw [4] (fun i wr => ∃ k : Nat, k ≤ n ∧ i = .int .i64 k ∧ BackRel1 w g0 l k wr) (fun i _ => n - (intOf i).toNat)
    case atStart => exact ⟨0, Nat.zero_le _, rfl, none, W2.out⟩
    case round =>
      obtain ⟨k, hk, rfl, A3, hwt⟩ := hrel
      by_cases hlt : k < n
      · obtain ⟨b, o, hAeq, hb, hc⟩ := HV.out.2.2 (by omega)
        obtain ⟨v, hvk⟩ : ∃ v, l[k]? = some v := ⟨l[k]'(by have := HN.out; omega), List.getElem?_eq_getElem _⟩
        have hvm := List.mem_of_getElem? hvk
        have hat := hc k v hvk
        have e0 := (hwt.keep.cell (p := ⟨b, o + k * 4, none⟩) hb (by simp)).trans hat.1
        have e1 := (hwt.keep.cell (p := ⟨b, o + k * 4 + 1, none⟩) hb (by simp)).trans hat.2.1
        have e2 := (hwt.keep.cell (p := ⟨b, o + k * 4 + 2, none⟩) hb (by simp)).trans hat.2.2.1
        have e3 := (hwt.keep.cell (p := ⟨b, o + k * 4 + 3, none⟩) hb (by simp)).trans hat.2.2.2
        subst hAeq
        have hkn : (k : Int) < (n : Int) := by omega
        have hm2 := HM.out v hvm
        have HOK := Lib.hid (HV.out.2.1 v hvm)
        have HLE := Lib.hid (flat_len l HV.out.2.1 HM.out k)
        have HTF := Lib.hid (take_flat l k v hvk)
        have W3 := Lib.hid hwt
        clear hwt hvk hvm hat hc
        go_wp2_with fail
        refine (put_any _ g0 A3 _ _ v rfl (fun hm x hx hmem => by
          have h1 := HOK.out.low hm x hx
          rcases List.mem_cons.1 hmem with h | h
          · have := W3.out.hg; omega
          · have := W3.out.hA x h; omega) hm2 (by have := HLE.out; omega) (HOK.out.keep0 W3.out.keep) W3.out.wr).mono ?_
        rintro e w4 ⟨A4, A2, n2, c2, rfl, hn2, hw4, hv4, hk4, hb4, hb2⟩
        have W4 := Lib.hid (W3.out.next hw4 hk4 hb4)
        clear hw4 hk4 hb4 hb2 hv4 hn2
        go_wp2_with fail
        go_roundw
        case rel =>
          refine ⟨k + 1, by omega, by go_num, A4, ?_⟩
          rw [HTF.out]; exact W4.out
        case measure => simp [intOf] <;> omega
      · obtain rfl : k = n := by omega
        have W3 := Lib.hid hwt
        have HLE := Lib.hid (flat_len l HV.out.2.1 HM.out k)
        have HTA : Hid (l.take k = l) := List.take_of_length_le (by rw [← HN.out]; omega)
        clear hwt
        go_wp2_with fail
        refine (wbytes_any _ g0 A3 _ W3.out.wr (by have := HLE.out; omega)).mono ?_
        rintro e w5 ⟨A5, n5, c5, rfl, hn5, hs5, hk5, hb5⟩
        have K5 : Hid (Keep w.heap.size [] w w5) := W3.out.keep.chain0 (Nat.le_refl _) hk5
        have HS5 := Lib.hid hs5
        have hn5' : n5 ≤ 8400 := by have := HLE.out; omega
        clear hn5 hs5 hk5 hb5
        go_wp2_with fail
        refine (rnew_any _ A5 n5 c5 _ (by omega) (HS5.out.vw (by omega))).mono ?_
        rintro e w6 ⟨g, X6, rfl, hr, hk, hg, hX⟩
        have K6 : Hid (Keep w.heap.size [] w w6) := K5.out.chain0 (Nat.le_refl _) hk
        have HGW : Hid (w.heap.size ≤ g) := Nat.le_trans K5.out.size hg
        have HX6 : Hid (∀ x, x ∈ blks X6 → w.heap.size ≤ x) := fun x hx => Nat.le_trans K5.out.size (hX x hx)
        have HR6 := Lib.hid hr
        clear hr hk hg hX
        go_wp2_with fail
        go_loopw [6] (fun i wr => ∃ k' : Nat, k' ≤ k ∧ i = .int .i64 k' ∧ BackRel w g l k' wr) (fun i _ => k - (intOf i).toNat)
        case atStart => exact ⟨0, Nat.zero_le _, rfl, X6, by have := HR6.out; rw [HTA.out] at this; exact this, K6.out, HX6.out⟩
        case round =>
          clear HR6 HX6 K6 W3 K5 HS5
          obtain ⟨k', hk', rfl, X, hrd, hkw, hxw⟩ := hrel
          by_cases hlt : k' < k
          · obtain ⟨b, o, hAeq, hb, hc⟩ := HV.out.2.2 (by omega)
            obtain ⟨v, hvk⟩ : ∃ v, l[k']? = some v := ⟨l[k']'(by have := HN.out; omega), List.getElem?_eq_getElem _⟩
            have hvm := List.mem_of_getElem? hvk
            have hat := hc k' v hvk
            have e0 := (hkw.cell (p := ⟨b, o + k' * 4, none⟩) hb (by simp)).trans hat.1
            have e1 := (hkw.cell (p := ⟨b, o + k' * 4 + 1, none⟩) hb (by simp)).trans hat.2.1
            have e2 := (hkw.cell (p := ⟨b, o + k' * 4 + 2, none⟩) hb (by simp)).trans hat.2.2.1
            have e3 := (hkw.cell (p := ⟨b, o + k' * 4 + 3, none⟩) hb (by simp)).trans hat.2.2.2
            subst hAeq
            have hkn : (k' : Int) < (k : Int) := by omega
            have hm2 := HM.out v hvm
            have HOK := Lib.hid (HV.out.2.1 v hvm)
            have HDF := Lib.hid (drop_flat l k' v hvk)
            have HRD0 := Lib.hid hrd
            have K0 := Lib.hid hkw
            have HXW := Lib.hid hxw
            obtain ⟨W6, hW6⟩ : ∃ W6, W6 = wr.alloc (.cells (vcells v) 39) := ⟨_, rfl⟩
            have hbx : Blk W6 wr.heap.size 39 (vcells v) := by rw [hW6]; exact Blk.new _ _ _
            have hpg : wr.heap.size ≠ g := by obtain ⟨_, _, _, _, _, h4, _⟩ := hrd; have := h4.lt; omega
            have HRD := Lib.hid (hrd.alloc (.cells (vcells v) 39))
            rw [← hW6] at HRD
            have K6 : Hid (Keep w.heap.size [] w W6) := by rw [hW6]; exact hkw.alloc hkw.size _
            have HW6 : Hid (wr.alloc (.cells #[.int .i64 v.k, .int .i64 v.n, .int .i64 v.z, .slice v.X v.m v.c] 39) = W6) := hW6.symm
            have HBX := Lib.hid hbx
            have HPG := Lib.hid hpg
            have b1 : W6.cell? ⟨wr.heap.size, 1, none⟩ = some (.int .i64 v.n) := hbx.cell 1
            have b2 : W6.cell? ⟨wr.heap.size, 2, none⟩ = some (.int .i64 v.z) := hbx.cell 2
            have b3 : W6.cell? ⟨wr.heap.size, 3, none⟩ = some (.slice v.X v.m v.c) := hbx.cell 3
            obtain ⟨M, hM⟩ : ∃ M, (l.drop (k' + 1)).flatMap encV = M := ⟨_, rfl⟩
            have HMM := Lib.hid hM
            obtain ⟨E, hE⟩ : ∃ E, (l.drop k').flatMap encV = E := ⟨_, rfl⟩
            have HEE : Hid (E = encV v ++ M) := by unfold Hid; rw [← hE, ← hM]; exact HDF.out
            have HOE : Hid (Oct E) := by
              unfold Hid; rw [← hE]
              exact flat_oct (w := w) _ (fun u hu => HV.out.2.1 u (List.mem_of_mem_drop hu))
            have HEL : Hid (E.length ≤ 100000000) := by
              obtain ⟨m1, _, h1, h2, _, _, h3, _⟩ := HRD.out
              have h4 := flat_len (l.drop k') (fun u hu => HV.out.2.1 u (List.mem_of_mem_drop hu)) (fun u hu => HM.out u (List.mem_of_mem_drop hu)) (l.drop k').length
              rw [List.take_length, hE] at h4
              simp at h4
              unfold Hid
              have := HN.out
              omega
            rw [hE] at HRD
            have HXW := Lib.hid hxw
            have hm2' : v.m ≤ 200 := hm2
            clear hvk hvm hat hc hrd hkw hxw hW6 hbx hpg hM hE HDF
            by_cases hk0 : v.k = 0
            · have q0 : (v.k == 0) = true := beq_iff_eq.2 hk0
              obtain ⟨U, hU⟩ : ∃ U, IntKind.u64.wrap v.n = U := ⟨_, rfl⟩
              have hU0 : 0 ≤ U := by rw [← hU, IntKind.wrap_u64]; omega
              have hU1 : U < 18446744073709551616 := by rw [← hU, IntKind.wrap_u64]; omega
              have HEV : Hid (E = beZ U v.z ++ M) := by
                unfold Hid; rw [HEE.out]; unfold encV; rw [if_pos hk0, hU]
              clear hk0
              by_cases hz : v.z < 1 ∨ 8 < v.z
              · have hnil : beZ U v.z = [] := if_pos hz
                have HZ := Lib.hid hz
                have HNIL := Lib.hid hnil
                clear hz hnil
                go_wp2_with fail
                rw [HW6.out]
                go_wp2_with fail
                refine (refuint_s _ U v.z hU0 hU1).mono ?_
                rintro e w7 ⟨A7, n7, c7, rfl, hn7, hs7, hk7, _⟩
                have hn0 : n7 = 0 := by rw [hn7, HNIL.out]; rfl
                subst hn0
                have K7 : Hid (Keep w.heap.size [] w w7) := K6.out.chain0 (Nat.le_refl _) hk7
                have HR7 := Lib.hid (HRD.out.keepS hk7 (by simp) (by simp))
                have D7 := HBX.out.keepS hk7 (by simp)
                have q2 : w7.cell? ⟨wr.heap.size, 2, none⟩ = some (.int .i64 v.z) := D7.cell 2
                clear hn7 hs7 hk7 D7
                go_wp2_with fail
                refine (takeuint_no _ A7 0 c7 v.z (by have := HZ.out; omega)).mono ?_
                rintro e w' ⟨rfl, rfl⟩
                go_wp2_with fail
                have HR8 : Hid (Rd w7 g X M) := by
                  have h := HR7.out
                  rw [HEV.out, HNIL.out] at h
                  exact h
                go_roundw
                case rel =>
                  exact ⟨k' + 1, by omega, by go_num, X, by rw [HMM.out]; exact HR8.out, K7.out, HXW.out⟩
                case measure => simp [intOf] <;> omega
              · obtain ⟨sz, hsz⟩ := Int.eq_ofNat_of_zero_le (show 0 ≤ v.z by omega)
                have hbz : beZ U v.z = be U sz := by unfold beZ; rw [if_neg hz, hsz]; rfl
                have h1 : 1 ≤ sz := by omega
                have h8 : sz ≤ 8 := by omega
                have hz1 : 1 ≤ v.z := by omega
                have hz8 : v.z ≤ 8 := by omega
                obtain ⟨V, hV⟩ : ∃ V, beVal (be U sz) = V := ⟨_, rfl⟩
                have HV1 : Hid (beVal ((be U sz).take sz) = V) := by unfold Hid; rw [List.take_of_length_le (by rw [be_length]; omega), hV]
                have HV2 : Hid (beVal (E.take sz) = V) := by
                  unfold Hid; rw [HEV.out, hbz, List.take_append_of_le_length (by rw [be_length]; omega), List.take_of_length_le (by rw [be_length]; omega), hV]
                have HD2 : Hid (E.drop sz = M) := by
                  unfold Hid; rw [HEV.out, hbz]
                  have := be_length U sz
                  rw [List.drop_append_of_le_length (by omega), List.drop_eq_nil_of_le (by omega)]; rfl
                have HLE2 : Hid (sz ≤ E.length) := by
                  unfold Hid; rw [HEV.out, hbz, List.length_append, be_length]; omega
                have HSZ := Lib.hid hsz
                have HBZ := Lib.hid hbz
                clear hz hsz hbz hV
                go_wp2_with fail
                rw [HW6.out]
                go_wp2_with fail
                refine (refuint_s _ U v.z hU0 hU1).mono ?_
                rintro e w7 ⟨A7, n7, c7, rfl, hn7, hs7, hk7, _⟩
                have K7 : Hid (Keep w.heap.size [] w w7) := K6.out.chain0 (Nat.le_refl _) hk7
                have HR7 := Lib.hid (HRD.out.keepS hk7 (by simp) (by simp))
                have D7 := HBX.out.keepS hk7 (by simp)
                have q2 : w7.cell? ⟨wr.heap.size, 2, none⟩ = some (.int .i64 v.z) := D7.cell 2
                rw [HBZ.out] at hs7
                have HS7 := Lib.hid hs7
                have D7' := Lib.hid D7
                clear hn7 hs7 hk7 D7
                go_wp2_with fail
                refine (takeuint_v _ A7 n7 c7 (be U sz) V v.z sz HSZ.out HV1.out (be_oct _ _) (HS7.out.vw (by omega)) h1 h8 (by rw [be_length]; omega)).mono ?_
                rintro e w' ⟨rfl, rfl⟩
                go_wp2_with fail
                refine (ruint_v _ g X E M V v.z sz HSZ.out HV2.out HD2.out HOE.out h1 h8 HLE2.out HR7.out).mono ?_
                rintro e w8 ⟨rfl, X7, hr8, hk8, hx8⟩
                have HR8 := Lib.hid hr8
                have K8 : Hid (Keep w.heap.size [] w w8) := K7.out.chain1 (Nat.le_refl _) hk8 HGW.out
                have HX8 := Lib.hid hx8
                clear hr8 hk8 hx8
                go_wp2_with fail
                go_roundw
                case rel =>
                  exact ⟨k' + 1, by omega, by go_num, X7, by rw [HMM.out]; exact HR8.out, K8.out, by rw [HX8.out]; exact HXW.out⟩
                case measure => simp [intOf] <;> omega
            · have q0 : (v.k == 0) = false := beq_false_of_ne hk0
              by_cases hk2 : v.k = 2
              · have q2 : (v.k == 2) = true := beq_iff_eq.2 hk2
                have hlb : v.B.length = v.m := by simpa [octs] using HOK.out.2.2.2.2.1.1
                have HEV : Hid (E = vn (zz v.m).toNat ++ v.B ++ M) := by
                  unfold Hid; rw [HEE.out]; unfold encV; rw [if_neg hk0, if_pos hk2]
                obtain ⟨kk, hkk⟩ : ∃ kk, (vn (zz v.m).toNat).length + v.m = kk := ⟨_, rfl⟩
                have HTK : Hid (tkB E 200 = (v.B, kk)) := by unfold Hid; rw [HEV.out, tkB_enc v.m v.B M hlb hm2', hkk]
                have HKK : Hid (kk ≠ 0) := by unfold Hid; have := vn_pos (zz v.m).toNat; omega
                have HDD : Hid (E.drop kk = M) := by
                  unfold Hid; rw [HEV.out]
                  have h : (vn (zz v.m).toNat ++ v.B).length = kk := by rw [List.length_append]; omega
                  rw [← h, List.drop_left]
                obtain ⟨S1, hS1⟩ : ∃ S1, strOfNums v.B = S1 := ⟨_, rfl⟩
                have hsz1 : S1.size ≤ 200 := by rw [← hS1, strOfNums_size]; omega
                have HCV : Hid (∀ W, Keep w.heap.size [] w W → (convert 22 9 (.slice v.X v.m v.c)).run Try.prog W = .ok (.string S1) W) := fun W hW => by
                  rw [← hS1]
                  exact conv_str 22 9 5 Try.underlying22 Try.underlying5 Try.underlying9 _ _ _ _ (HOK.out.2.2.2.2.1.keep0 hW)
                have HCA : Hid (∀ W A n1 c1, Sl W 5 1 A n1 c1 (octs v.B) → (convert 22 9 (.slice A n1 c1)).run Try.prog W = .ok (.string S1) W) := fun W A n1 c1 hs => by
                  rw [← hS1]
                  exact conv_str 22 9 5 Try.underlying22 Try.underlying5 Try.underlying9 _ _ _ _ (hs.vw (by omega))
                have s5 := HCV.out W6.drew K6.out.drew
                clear hk0 hk2 hlb hkk hS1
                go_wp2_with fail
                rw [HW6.out]
                refine wp_region_held_drew (S := (fun w' => w'.cell? ⟨wr.heap.size, 3, none⟩ = some (.slice v.X v.m v.c) ∧ (convert 22 9 (.slice v.X v.m v.c)).run Try.prog w' = .ok (.string S1) w')) (by kernel_rfl) (by exact ⟨b3, s5⟩) (fun hHeld => ?_)
                refine wpAnyH_take (i := 0) (oi := { dst := some 76, op := Op.move (Operand.tmp 5), type := 24, pos := _, after := #[], guard := none }) (v := _) rfl (by kernel_rfl) (by kernel_rfl) (by kernel_rfl) (fun _ _ _ h => h) (Or.inl ⟨by rfl, by (intro wS hSw; (try dsimp only at hSw); go_simp; try with_reducible rfl)⟩) (by assumption) ?_
                (try simp only [Act.put, List.setIfInBounds_toArray, List.set_cons_zero, List.set_cons_succ])
                refine wpAnyH_take (i := 3) (oi := { dst := some 79, op := Op.fieldAddr 39 (Operand.tmp 7) 3, type := 0, pos := _, after := #[], guard := none }) (v := _) rfl (by kernel_rfl) (by kernel_rfl) (by kernel_rfl) (fun _ _ _ h => h) (Or.inl ⟨by rfl, by (intro wS hSw; (try dsimp only at hSw); go_simp; try with_reducible rfl)⟩) (by assumption) ?_
                (try simp only [Act.put, List.setIfInBounds_toArray, List.set_cons_zero, List.set_cons_succ])
                refine wpAnyH_take (i := 4) (oi := { dst := some 80, op := Op.load 22 (Operand.tmp 79), type := 22, pos := _, after := #[{ on := 3, ground := Ground.data }], guard := none }) (v := _) rfl (by kernel_rfl) (by kernel_rfl) (by kernel_rfl) (fun _ _ _ h => h) (Or.inl ⟨by rfl, by (intro wS hSw; (try dsimp only at hSw); go_simp; try with_reducible rfl)⟩) (by assumption) ?_
                (try simp only [Act.put, List.setIfInBounds_toArray, List.set_cons_zero, List.set_cons_succ])
                refine wpAnyH_take (i := 5) (oi := { dst := some 81, op := Op.convert 22 9 (Operand.tmp 80), type := 9, pos := _, after := #[{ on := 4, ground := Ground.data }], guard := none }) (v := _) rfl (by kernel_rfl) (by kernel_rfl) (by kernel_rfl) (fun _ _ _ h => h) (Or.inl ⟨by rfl, by (intro wS hSw; (try dsimp only at hSw); go_simp; try with_reducible rfl)⟩) (by assumption) ?_
                (try simp only [Act.put, List.setIfInBounds_toArray, List.set_cons_zero, List.set_cons_succ])
                refine wpAnyH_ready (rs := [1]) (by kernel_rfl) (by simp) ?_
                refine AllReadyH.cons (o := { dst := some 77, op := Op.call { callee := Callee.value (Operand.func 23), args := #[Operand.tmp 76, Operand.const (Value.int IntKind.i64 200)], argTypes := #[24, 3] }, type := 22, pos := _, after := #[{ on := 0, ground := Ground.data }], guard := none }) rfl (fun K hK => ?_) AllReadyH.nil
                go_simp
                refine (rblob_yes _ g X E v.B 200 kk HOE.out (by exact HRD.out) HEL.out HTK.out HKK.out).mono ?_
                rintro e w7 ⟨A7, n7, c7, X7, rfl, hn, hs, hr, hk, hx, _⟩
                have hk' := hk.undrew
                have D7 := HBX.out.keepS hk' (by simpa using HPG.out)
                have q3 : w7.cell? ⟨wr.heap.size, 3, none⟩ = some (.slice v.X v.m v.c) := D7.cell 3
                have s7 := HCV.out w7 (K6.out.chain1 (Nat.le_refl _) hk' HGW.out)
                have t7 := HCA.out w7 A7 n7 c7 hs
                have HR7 := Lib.hid hr
                have HX7 := Lib.hid hx
                have K7 : Hid (Keep w.heap.size [] w w7) := K6.out.chain1 (Nat.le_refl _) hk' HGW.out
                clear hn hs hk hk' hr D7 hx
                refine hK.out _ _ (by exact ⟨q3, s7⟩) (fun hHeld => ?_)
                clear hK K
                (try simp only [Act.put, List.setIfInBounds_toArray, List.set_cons_zero, List.set_cons_succ])
                refine wpAnyH_ready (rs := [2]) (by kernel_rfl) (by simp) ?_
                refine AllReadyH.cons (o := { dst := some 78, op := Op.convert 22 9 (Operand.tmp 77), type := 9, pos := _, after := #[{ on := 1, ground := Ground.data }], guard := none }) rfl (fun K hK => ?_) AllReadyH.nil
                go_simp
                refine hK.out _ _ (by exact ⟨q3, s7⟩) (fun hHeld => ?_)
                clear hK K
                (try simp only [Act.put, List.setIfInBounds_toArray, List.set_cons_zero, List.set_cons_succ])
                refine wpAnyH_take (i := 6) (oi := { dst := some 82, op := Op.binOp BinOp.neq 9 (Operand.tmp 78) (Operand.tmp 81) 9, type := 4, pos := _, after := #[{ on := 2, ground := Ground.data }, { on := 5, ground := Ground.data }], guard := none }) (v := _) rfl (by kernel_rfl) (by kernel_rfl) (by kernel_rfl) (fun _ _ _ h => h) (Or.inl ⟨by rfl, by (intro wS hSw; (try dsimp only at hSw); go_simp; try with_reducible rfl)⟩) (by assumption) ?_
                (try simp only [Act.put, List.setIfInBounds_toArray, List.set_cons_zero, List.set_cons_succ])
                refine wpAnyH_done (by kernel_rfl) ?_ _
                go_wp2_with fail
                have HR9 : Hid (Rd w7 g X7 M) := by have h := HR7.out; rw [HDD.out] at h; exact h
                go_roundw
                case rel =>
                  exact ⟨k' + 1, by omega, by go_num, X7, by rw [HMM.out]; exact HR9.out, K7.out, by rw [HX7.out]; exact HXW.out⟩
                case measure => simp [intOf] <;> omega
              · have q2 : (v.k == 2) = false := beq_false_of_ne hk2
                have HEV : Hid (E = vn (zz v.n).toNat ++ M) := by
                  unfold Hid; rw [HEE.out]; unfold encV; rw [if_neg hk0, if_neg hk2]
                obtain ⟨kk, hkk⟩ : ∃ kk, (vn (zz v.n).toNat).length = kk := ⟨_, rfl⟩
                have HTK : Hid (tkI E = (v.n, kk)) := by unfold Hid; rw [HEV.out, tkI_vn v.n HOK.out.2.1.1 HOK.out.2.1.2 M, hkk]
                have HKK : Hid (kk ≠ 0) := by unfold Hid; have := vn_pos (zz v.n).toNat; omega
                have HDD : Hid (E.drop kk = M) := by
                  unfold Hid; rw [HEV.out, ← hkk, List.drop_left]
                clear hk0 hk2 hkk
                go_wp2_with fail
                rw [HW6.out]
                refine wp_region_held_drew (S := (fun w' => w'.cell? ⟨wr.heap.size, 1, none⟩ = some (.int .i64 v.n))) (by kernel_rfl) (by exact b1) (fun hHeld => ?_)
                refine wpAnyH_take (i := 0) (oi := { dst := some 44, op := Op.move (Operand.tmp 5), type := 24, pos := _, after := #[], guard := none }) (v := _) rfl (by kernel_rfl) (by kernel_rfl) (by kernel_rfl) (fun _ _ _ h => h) (Or.inl ⟨by rfl, by (intro wS hSw; (try dsimp only at hSw); go_simp; try with_reducible rfl)⟩) (by assumption) ?_
                (try simp only [Act.put, List.setIfInBounds_toArray, List.set_cons_zero, List.set_cons_succ])
                refine wpAnyH_take (i := 2) (oi := { dst := some 46, op := Op.fieldAddr 39 (Operand.tmp 7) 1, type := 0, pos := _, after := #[], guard := none }) (v := _) rfl (by kernel_rfl) (by kernel_rfl) (by kernel_rfl) (fun _ _ _ h => h) (Or.inl ⟨by rfl, by (intro wS hSw; (try dsimp only at hSw); go_simp; try with_reducible rfl)⟩) (by assumption) ?_
                (try simp only [Act.put, List.setIfInBounds_toArray, List.set_cons_zero, List.set_cons_succ])
                refine wpAnyH_take (i := 3) (oi := { dst := some 47, op := Op.load 3 (Operand.tmp 46), type := 3, pos := _, after := #[{ on := 2, ground := Ground.data }], guard := none }) (v := _) rfl (by kernel_rfl) (by kernel_rfl) (by kernel_rfl) (fun _ _ _ h => h) (Or.inl ⟨by rfl, by (intro wS hSw; (try dsimp only at hSw); go_simp; try with_reducible rfl)⟩) (by assumption) ?_
                (try simp only [Act.put, List.setIfInBounds_toArray, List.set_cons_zero, List.set_cons_succ])
                refine wpAnyH_ready (rs := [1]) (by kernel_rfl) (by simp) ?_
                refine AllReadyH.cons (o := { dst := some 45, op := Op.call { callee := Callee.value (Operand.func 9), args := #[Operand.tmp 44], argTypes := #[24] }, type := 3, pos := _, after := #[{ on := 0, ground := Ground.data }], guard := none }) rfl (fun K hK => ?_) AllReadyH.nil
                go_simp
                refine (rint_yes _ g X E v.n kk HOE.out (by exact HRD.out) HTK.out HKK.out).mono ?_
                rintro e w7 ⟨rfl, X7, hr, hk, hx⟩
                have hk' := hk.undrew
                have D7 := HBX.out.keepS hk' (by simpa using HPG.out)
                have q1 : w7.cell? ⟨wr.heap.size, 1, none⟩ = some (.int .i64 v.n) := D7.cell 1
                have HR7 := Lib.hid hr
                have HX7 := Lib.hid hx
                have K7 : Hid (Keep w.heap.size [] w w7) := K6.out.chain1 (Nat.le_refl _) hk' HGW.out
                clear hk hk' hr D7 hx
                refine hK.out _ _ (by exact q1) (fun hHeld => ?_)
                clear hK K
                (try simp only [Act.put, List.setIfInBounds_toArray, List.set_cons_zero, List.set_cons_succ])
                refine wpAnyH_take (i := 4) (oi := { dst := some 48, op := Op.binOp BinOp.neq 3 (Operand.tmp 45) (Operand.tmp 47) 3, type := 4, pos := _, after := #[{ on := 1, ground := Ground.data }, { on := 3, ground := Ground.data }], guard := none }) (v := _) rfl (by kernel_rfl) (by kernel_rfl) (by kernel_rfl) (fun _ _ _ h => h) (Or.inl ⟨by rfl, by (intro wS hSw; (try dsimp only at hSw); go_simp; try with_reducible rfl)⟩) (by assumption) ?_
                (try simp only [Act.put, List.setIfInBounds_toArray, List.set_cons_zero, List.set_cons_succ])
                refine wpAnyH_done (by kernel_rfl) ?_ _
                go_wp2_with fail
                have HR9 : Hid (Rd w7 g X7 M) := by have h := HR7.out; rw [HDD.out] at h; exact h
                go_roundw
                case rel =>
                  exact ⟨k' + 1, by omega, by go_num, X7, by rw [HMM.out]; exact HR9.out, K7.out, by rw [HX7.out]; exact HXW.out⟩
                case measure => simp [intOf] <;> omega
          · obtain rfl : k' = k := by omega
            have K3 := Lib.hid hkw
            have hd : l.drop k' = [] := List.drop_eq_nil_of_le (by rw [← HN.out]; omega)
            rw [hd] at hrd
            have HRD := Lib.hid hrd
            obtain ⟨_, _, _, _, _, hb, _⟩ := hrd
            have HB := Lib.hid hb
            clear hkw hxw hb hd
            go_wp2_with fail
            refine (rend_yes _ g X _ HRD.out).mono ?_
            rintro e w' ⟨rfl, rfl⟩
            go_wp2_with fail
            refine (rfailed_b _ g false _ _ HB.out).mono ?_
            rintro e w' ⟨rfl, rfl⟩
            go_wp2_with fail
            refine (rleft_v _ g X _ 0 rfl HRD.out).mono ?_
            rintro e w' ⟨rfl, rfl⟩
            go_wp2_with fail
            go_ret
            exact ⟨rfl, K3.out⟩
end Go.Proofs.Ytalhojnkdcopeaa
