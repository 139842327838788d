/- Drifts and Converts: the walks. -/
import Derived.Test.YtdckpamempejgaaTLawD
namespace Go.Proofs.Ytdckpamempejgaa
set_option linter.unusedVariables false
set_option linter.unusedSimpArgs false
open Go.RowKit
set_option maxHeartbeats 4000000 in
theorem drifts_any (w : World) (X : Option Addr) (n c : Nat) (l : List (Int × Int)) (hnc : n ≤ c) (hcm : c ≤ maxLen) (hv : Rows2 w X n l) : Calls Try.prog 3 #[.slice X n c] w (LawPost w) := by
  have HV := Lib.hid hv
  clear hv
  by_cases hb : 100 < n
  · have hb' : (100 : Int) < (n : Int) := by omega
    go_enter Try.func3, Try.ntmps3
    go_wp2_with fail
    refine (alive_any _).mono ?_
    rintro e w1 ⟨rfl, hk⟩
    have K1 := Lib.hid hk
    clear hk
    go_wp2_with fail
    go_ret
    exact ⟨rfl, K1.out⟩
  · have hb' : (n : Int) ≤ 100 := by omega
    go_enter Try.func3, Try.ntmps3
    go_wp2_with fail
    refine (load_any _ X n c l hnc (by omega) HV.out).mono ?_
    rintro e w1 ⟨g, f, rfl, hf, hn, _⟩
    have F1 := Lib.hid (hf.next ((Keep.refl _ _ w1).alloc (Nat.le_refl _) (.cells (rcells f) 26)))
    have R1 := Lib.hid (Blk.new w1 26 (rcells f))
    obtain ⟨y, z, hd⟩ : ∃ y z, driftP f = (y, z) := ⟨_, _, rfl⟩
    have HD := Lib.hid hd
    clear hf hd
    go_wp2_with fail
    refine (drift_any _ g f y z F1.out.ok HD.out F1.out.blk).mono ?_
    rintro e w2 ⟨rfl, hk⟩
    have F2 := Lib.hid (F1.out.next hk)
    obtain ⟨r0, r1, r2, r3, r4⟩ := rcell5 (R1.out.keepS hk (by simp))
    clear hk F1 R1
    go_wp2_with fail
    refine (rdrift_any _ f y z F2.out.ok HD.out).mono ?_
    rintro e w3 ⟨rfl, hk⟩
    have F3 := Lib.hid (F2.out.next hk)
    clear hk r0 r1 r2 r3 r4 F2
    go_wp2_with fail
    refine (alive_any _).mono ?_
    rintro e w4 ⟨rfl, hk⟩
    have F4 := Lib.hid (F3.out.next hk)
    clear hk
    go_wp2_with fail
    go_ret
    exact ⟨rfl, F4.out.keep⟩
/-- a world on the way of Converts: the clone h, the reference's v, the times -/
structure CW (w W : World) (h v : Nat) (f : Ft) (X : Option Addr) (n : Nat) (l : List Int) : Prop where
  fw : FW w W h f
  ref : RB W v f
  tm : Vw w X n 1 (l.map (Value.int .i64))
theorem CW.next {w W W' : World} {h v : Nat} {f : Ft} {X : Option Addr} {n : Nat} {l : List Int} (a : CW w W h v f X n l) (hk : Keep W.heap.size [] W W') : CW w W' h v f X n l :=
  ⟨a.fw.next hk, a.ref.keepS hk (by simp), a.tm⟩
theorem CW.drew {w W : World} {h v : Nat} {f : Ft} {X : Option Addr} {n : Nat} {l : List Int} (a : CW w W h v f X n l) : CW w W.drew h v f X n l :=
  ⟨⟨a.fw.keep.drew, a.fw.blk, a.fw.hg, a.fw.ok⟩, a.ref, a.tm⟩
theorem CW.at_ {w W : World} {h v b o k : Nat} {f : Ft} {n : Nat} {l : List Int} {x : Int} (a : CW w W h v f (some ⟨b, o, none⟩) n l) (hx : l[k]? = some x) : W.cell? ⟨b, o + k, none⟩ = some (.int .i64 x) := by
  have hv := a.tm.keep0 a.fw.keep
  have hl : n = l.length := by have := hv.1; simp at this; omega
  have hk := (List.getElem?_eq_some_iff.1 hx).1
  obtain ⟨b', o', u, he, _, h2, h3⟩ := hv.at_ (k := k) (by omega)
  cases he
  simp [hx] at h2
  rw [← h2] at h3
  exact h3
theorem CW.s {w W : World} {h v b o k : Nat} {f : Ft} {n : Nat} {l : List Int} {x : Int} (a : CW w W h v f (some ⟨b, o, none⟩) n l) (hx : l[k]? = some x) :
    W.cell? ⟨v, 0, none⟩ = some (.int .i64 f.n) ∧ W.cell? ⟨v, 1, none⟩ = some (.int .i64 f.g0) ∧ W.cell? ⟨v, 2, none⟩ = some (.int .i64 f.b0) ∧ W.cell? ⟨v, 3, none⟩ = some (.int .i64 f.g1) ∧ W.cell? ⟨v, 4, none⟩ = some (.int .i64 f.b1) ∧ W.cell? ⟨b, o + k, none⟩ = some (.int .i64 x) :=
  ⟨a.ref.cell 0, a.ref.cell 1, a.ref.cell 2, a.ref.cell 3, a.ref.cell 4, a.at_ hx⟩
set_option maxRecDepth 100000 in
set_option maxHeartbeats 8000000 in
theorem converts_any (w : World) (X : Option Addr) (n c : Nat) (l : List (Int × Int)) (hnc : n ≤ c) (hcm : c ≤ maxLen) (hv : Rows2 w X n l) (X2 : Option Addr) (n2 c2 : Nat) (l2 : List Int) (hnc2 : n2 ≤ c2) (hcm2 : c2 ≤ maxLen) (hv2 : Vw w X2 n2 1 (l2.map (Value.int .i64))) :
    Calls Try.prog 6 #[.slice X n c, .slice X2 n2 c2] w (LawPost w) := by
  have HV := Lib.hid hv
  have HV2 := Lib.hid hv2
  clear hv hv2
  have hn2c : (n2 : Int) ≤ (c2 : Int) := by omega
  have hcm3 : (c2 : Int) ≤ 9223372036854775807 := by unfold maxLen at hcm2; omega
  by_cases hb : 100 < n
  · have hb' : (100 : Int) < (n : Int) := by omega
    go_enter Try.func6, Try.ntmps6
    go_wp2_with fail
    refine (alive_any _).mono ?_
    rintro e w1 ⟨rfl, hk⟩
    have K1 := Lib.hid hk
    clear hk
    go_wp2_with fail
    go_ret
    exact ⟨rfl, K1.out⟩
  have hb' : (n : Int) ≤ 100 := by omega
  by_cases hb2 : 30 < n2
  · have hb2' : (30 : Int) < (n2 : Int) := by omega
    go_enter Try.func6, Try.ntmps6
    go_wp2_with fail
    refine (alive_any _).mono ?_
    rintro e w1 ⟨rfl, hk⟩
    have K1 := Lib.hid hk
    clear hk
    go_wp2_with fail
    go_ret
    exact ⟨rfl, K1.out⟩
  have hb2' : (n2 : Int) ≤ 30 := by omega
  go_enter Try.func6, Try.ntmps6
  go_wp2_with fail
  refine (load_any _ X n c l hnc (by omega) HV.out).mono ?_
  rintro e w1 ⟨g, f, rfl, hf, hn, _⟩
  have hlt := hf.blk.lt
  have F1 := Lib.hid (hf.next ((Keep.refl _ _ w1).alloc (Nat.le_refl _) (.cells (rcells f) 26)))
  have R1 := Lib.hid (Blk.new w1 26 (rcells f))
  obtain ⟨v, hvv⟩ : ∃ v, w1.heap.size = v := ⟨_, rfl⟩
  clear hf
  go_wp2_with fail
  refine (clone_any _ g f F1.out.blk).mono ?_
  rintro e w2 ⟨rfl, hb, hk⟩
  have F2 := Lib.hid (F1.out.next hk)
  have R2 := Lib.hid (R1.out.keepS hk (by simp))
  have hgs := F1.out.blk.lt
  have HH := Lib.hid (show g ≠ (w1.alloc (.cells (rcells f) 26)).heap.size ∧ w.heap.size ≤ (w1.alloc (.cells (rcells f) 26)).heap.size ∧ g ≠ v from ⟨by omega, F1.out.keep.size, by omega⟩)
  have H2 := Lib.hid hb
  obtain ⟨h, hh⟩ : ∃ h, (w1.alloc (.cells #[.int .i64 f.n, .int .i64 f.g0, .int .i64 f.b0, .int .i64 f.g1, .int .i64 f.b1] 26)).heap.size = h := ⟨_, rfl⟩
  rw [hh] at H2 HH ⊢
  rw [hvv] at R2
  obtain ⟨f', z, ha⟩ : ∃ f' z, addP f 1099511627776 1099511627776 = (f', z) := ⟨_, _, rfl⟩
  have HA := Lib.hid ha
  have hf1 : f.n < 1000000 := by omega
  clear hb hk hlt hgs hvv hh F1 R1 ha
  go_wp2_with fail
  refine (add_any _ g f f' 1099511627776 1099511627776 z HA.out F2.out.blk F2.out.ok hf1).mono ?_
  rintro e w3 ⟨rfl, hb, hk⟩
  have C3 : Hid (CW w w3 h v f X2 n2 l2) := Lib.hid ⟨⟨F2.out.keep.chain1 (Nat.le_refl _) hk F2.out.hg, H2.out.keepS hk (by simpa using HH.out.1.symm), HH.out.2.1, F2.out.ok⟩, R2.out.keepS hk (by simpa using HH.out.2.2.symm), HV2.out⟩
  clear hb hk F2 R2 H2
  go_wp2_with fail
  go_loopw [9] (fun i wr => ∃ k : Nat, k ≤ n2 ∧ i = .int .i64 k ∧ CW w wr h v f X2 n2 l2) (fun i _ => n2 - (intOf i).toNat)
  case atStart => exact ⟨0, Nat.zero_le _, rfl, C3.out⟩
  case round =>
    obtain ⟨k, hkn, rfl, hc⟩ := hrel
    have C := Lib.hid hc
    clear hc
    by_cases hlt : k < n2
    · have hkx : (k : Int) < (n2 : Int) := by omega
      obtain ⟨b, o, rfl, _⟩ := HV2.out.2 (by omega)
      obtain ⟨x, hx⟩ : ∃ x, l2[k]? = some x := ⟨_, List.getElem?_eq_getElem (by have := HV2.out.1; simp at this; omega)⟩
      have HX := Lib.hid hx
      clear hx
      obtain ⟨y1, z1, hq1⟩ : ∃ y z, boardP f x = (y, z) := ⟨_, _, rfl⟩
      obtain ⟨y2, z2, hq2⟩ : ∃ y z, groundP f x = (y, z) := ⟨_, _, rfl⟩
      have HB := Lib.hid hq1
      have HGr := Lib.hid hq2
      clear hq1 hq2
      have c1 := C.out.at_ HX.out
      go_wp2_with fail
      refine (board_any _ h f x y1 z1 C.out.fw.ok HB.out C.out.fw.blk).mono ?_
      rintro e w4 ⟨rfl, hk⟩
      have C4 := Lib.hid (C.out.next hk)
      have s4 := C4.out.drew.s HX.out
      clear hk c1
      go_wp2_with fail
      go_region_held3 (fun w' => w'.cell? ⟨v, 0, none⟩ = some (.int .i64 f.n) ∧ w'.cell? ⟨v, 1, none⟩ = some (.int .i64 f.g0) ∧ w'.cell? ⟨v, 2, none⟩ = some (.int .i64 f.b0) ∧ w'.cell? ⟨v, 3, none⟩ = some (.int .i64 f.g1) ∧ w'.cell? ⟨v, 4, none⟩ = some (.int .i64 f.b1) ∧ w'.cell? ⟨b, o + k, none⟩ = some (.int .i64 x))
        (first | with_reducible exact s4 | with_reducible exact s5)
        (first
          | (go_at_call 17
             refine (rboard_any _ f x y1 z1 C4.out.fw.ok HB.out).mono ?_
             rintro e w5 ⟨rfl, hk⟩
             have C5 := Lib.hid (C4.out.drew.next hk)
             have s5 := C5.out.s HX.out
             clear hk))
      have c1 := C5.out.at_ HX.out
      clear s4 s5
      go_wp2_with fail
      refine (ground_any _ h f x y2 z2 C5.out.fw.ok HGr.out C5.out.fw.blk).mono ?_
      rintro e w6 ⟨rfl, hk⟩
      have C6 := Lib.hid (C5.out.next hk)
      have s6 := C6.out.drew.s HX.out
      clear hk c1
      go_wp2_with fail
      go_region_held3 (fun w' => w'.cell? ⟨v, 0, none⟩ = some (.int .i64 f.n) ∧ w'.cell? ⟨v, 1, none⟩ = some (.int .i64 f.g0) ∧ w'.cell? ⟨v, 2, none⟩ = some (.int .i64 f.b0) ∧ w'.cell? ⟨v, 3, none⟩ = some (.int .i64 f.g1) ∧ w'.cell? ⟨v, 4, none⟩ = some (.int .i64 f.b1) ∧ w'.cell? ⟨b, o + k, none⟩ = some (.int .i64 x))
        (first | with_reducible exact s6 | with_reducible exact s7)
        (first
          | (go_at_call 18
             refine (rground_any _ f x y2 z2 C6.out.fw.ok HGr.out).mono ?_
             rintro e w7 ⟨rfl, hk⟩
             have C7 := Lib.hid (C6.out.drew.next hk)
             have s7 := C7.out.s HX.out
             clear hk))
      go_wp2_with fail
      go_roundw
      case rel => exact ⟨k + 1, by omega, by go_num, C7.out⟩
      case measure => simp [intOf]; omega
    · obtain rfl : k = n2 := by omega
      go_wp2_with fail
      refine (alive_any _).mono ?_
      rintro e w9 ⟨rfl, hk⟩
      have C9 := Lib.hid (C.out.next hk)
      clear hk
      go_wp2_with fail
      go_ret
      exact ⟨rfl, C9.out.fw.keep⟩
end Go.Proofs.Ytdckpamempejgaa
