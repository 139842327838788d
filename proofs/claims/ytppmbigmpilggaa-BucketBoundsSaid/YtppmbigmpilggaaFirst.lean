/- The laws BucketFirst, BucketClones, BucketNone: their walks. -/
import Derived.Test.YtppmbigmpilggaaPlays
namespace Go.Proofs.Ytppmbigmpilggaa
set_option linter.unusedVariables false
set_option linter.unusedSimpArgs false
open Go.RowKit

/-! ### plain laws -/
theorem ceil_lt (a r d : Int) (hr : 0 < r) (h : d < (a + r - 1) / r) : r * d < a := by
  have h1 : d + 1 ≤ (a + r - 1) / r := by omega
  have h2 := Int.mul_le_mul_of_nonneg_right h1 (by omega : 0 ≤ r)
  have h3 := Int.ediv_mul_le (a + r - 1) (by omega : r ≠ 0)
  have h4 : (d + 1) * r = r * d + r := by rw [Int.add_mul, Int.mul_comm d r]; omega
  omega
theorem ceil_ge (a r : Int) (hr : 0 < r) : a ≤ r * ((a + r - 1) / r) := by
  have h := Int.lt_ediv_add_one_mul_self (a + r - 1) hr
  have h4 : ((a + r - 1) / r + 1) * r = r * ((a + r - 1) / r) + r := by rw [Int.add_mul, Int.mul_comm _ r]; omega
  omega
theorem adv_zero (b : Bu) (h : b.Inv) : b.adv 0 = b := adv_stay b 0 (.inl h.t0)
theorem adv_l (b : Bu) (now : Int) (h : b.t < now) (h' : now ≤ 1099511627776) : (b.adv now).l = fill b (now - b.t) := by rw [adv_go b now h h']

theorem late_no (b : Bu) (h : b.Inv) (n : Int) (hw : (b.whens n).2 = false) : b.takes n 1099511627776 = false := by
  have hlt : (b.adv 1099511627776).l < n ∨ n < 0 := by
    by_cases hn : n < 0
    · exact .inr hn
    left
    have hi := adv_inv h 1099511627776
    have hs := adv_s b 1099511627776
    have h1 := hi.l1
    by_cases hs' : b.s < n
    · omega
    by_cases hl : n ≤ b.l
    · rw [whens_3 b n (by omega) (by omega) hl] at hw; cases hw
    by_cases hr : b.r = 0
    · have : (b.adv 1099511627776).l = b.l := by
        by_cases ht : b.t < 1099511627776
        · rw [adv_l b _ ht (by omega), fill, hr]; have := h.l1; rw [if_neg (by omega)]; omega
        · rw [adv_stay b _ (.inl (by omega))]
      omega
    have hr' : 0 < b.r := by have := h.r0; omega
    by_cases hw' : 1099511627776 < b.whenT n
    · by_cases ht : b.t < 1099511627776
      · rw [adv_l b _ ht (by omega)]
        have := ceil_lt (n - b.l) b.r (1099511627776 - b.t) hr' (by unfold Bu.whenT at hw'; omega)
        unfold fill
        split <;> omega
      · rw [adv_stay b _ (.inl (by omega))]; omega
    · rw [whens_6 b n (by omega) (by omega) (by omega) hr' (by omega)] at hw; cases hw
  unfold Bu.takes
  simp; omega

theorem late_yes (b : Bu) (h : b.Inv) (n : Int) (hw : (b.whens n).2 = true) : b.takes n (b.whens n).1 = true ∧ (b.t < (b.whens n).1 → b.takes n ((b.whens n).1 - 1) = false) ∧ b.t ≤ (b.whens n).1 ∧ (b.whens n).1 ≤ 1099511627776 := by
  by_cases h1 : n < 0
  · rw [whens_1 b n h1] at hw; cases hw
  by_cases h2 : b.s < n
  · rw [whens_2 b n h2] at hw; cases hw
  by_cases h3 : n ≤ b.l
  · rw [whens_3 b n (by omega) (by omega) h3]
    refine ⟨?_, fun hh => absurd hh (by simp), Int.le_refl _, h.t1⟩
    simp only [Bu.takes, adv_stay b b.t (.inl (Int.le_refl _))]
    simp; omega
  by_cases h4 : b.r = 0
  · rw [whens_4 b n (by omega) (by omega) (by omega) h4] at hw; cases hw
  have hr : 0 < b.r := by have := h.r0; omega
  by_cases h5 : 1099511627776 < b.whenT n
  · rw [whens_5 b n (by omega) (by omega) (by omega) hr h5] at hw; cases hw
  rw [whens_6 b n (by omega) (by omega) (by omega) hr (by omega)]
  have hb := whenT_bd b h n (by omega) (by omega) hr
  have hg := ceil_ge (n - b.l) b.r hr
  have hpos : 0 < (n - b.l + b.r - 1) / b.r := by
    by_cases hp : 0 < (n - b.l + b.r - 1) / b.r
    · exact hp
    · have h0 : (n - b.l + b.r - 1) / b.r = 0 := by omega
      rw [h0] at hg
      omega
  have hT : b.whenT n = b.t + (n - b.l + b.r - 1) / b.r := rfl
  refine ⟨?_, fun hlt => ?_, by show b.t ≤ b.whenT n; omega, by show b.whenT n ≤ _; omega⟩
  · have e : (b.adv (b.whenT n)).l = fill b ((n - b.l + b.r - 1) / b.r) := by
      rw [adv_l b _ (by omega) (by omega), hT]; congr 1; omega
    have hge : n ≤ fill b ((n - b.l + b.r - 1) / b.r) := by
      unfold fill; split <;> omega
    simp only [Bu.takes, e]
    simp; omega
  · have hlt2 : (b.adv (b.whenT n - 1)).l < n := by
      by_cases ht : b.whenT n - 1 ≤ b.t
      · rw [adv_stay b _ (.inl ht)]; omega
      · rw [adv_l b _ (by omega) (by omega)]
        have := ceil_lt (n - b.l) b.r (b.whenT n - 1 - b.t) hr (by omega)
        unfold fill
        split <;> omega
    simp only [Bu.takes]
    simp; omega

theorem firstRel_of {w : World} {g x : Nat} {b : Bu} {wr : World} (h1 : b.Inv) (h2 : Blk wr g 47 (bcells b)) (h3 : Blk wr x 26 (rcells b)) (h4 : Keep w.heap.size [] w wr) : PlaysRel w g x wr := ⟨b, h1, h2, h3, h4⟩

/-- the end of BucketFirst, of an open state -/
theorem when_zero (w : World) (g : Nat) (b : Bu) (hi : b.Inv) (n : Int) (hb : Blk w g 47 (bcells b)) (T : Int) (o : Bool) (h : b.whens n = (T, o)) :
    Calls Try.prog 15 #[bptr g, .int .i64 n, .int .i64 0] w (TakePost w g 47 (bcells b) (.tuple #[.int .i64 T, .bool o])) := by
  have := when_any w g b hi n 0 hb
  rw [adv_zero b hi, h] at this
  exact this
theorem take_v (w : World) (g : Nat) (b : Bu) (hi : b.Inv) (n now : Int) (v : Bool) (hv : b.takes n now = v) (hb : Blk w g 47 (bcells b)) :
    Calls Try.prog 14 #[bptr g, .int .i64 n, .int .i64 now] w (TakePost w g 47 (bcells (b.take n now)) (.bool v)) := by
  have := take_any w g b hi n now hb
  rw [hv] at this
  exact this

set_option maxHeartbeats 2000000 in
theorem first_any (w : World) (r s n : Int) (A : Option Addr) (m c : Nat) (hA : StepsAt w w.heap.size A m) :
    Calls Try.prog 5 #[.agg #[.int .i64 r, .int .i64 s, .int .i64 n, .slice A m c]] w (LawPost w) := by
  have hn := hA.1
  by_cases hlt : 100 < m
  · have hl : (100 : Int) < (m : Int) := by omega
    clear hA
    go_enter Try.func5, Try.ntmps5
    go_wp2_with fail
    go_quiet (fail)
    go_wp2_with fail
    refine (new_any _ r s).mono ?_
    rintro e w0 ⟨g, rfl, hg, hb', hk'⟩
    have K0 : Hid (Keep w.heap.size [] w w0) := ((((Keep.refl _ _ w).alloc (Nat.le_refl _) _).drewN _).chain0 (Nat.le_refl _) hk')
    clear hb' hk' hg
    go_wp2_with fail
    refine (rnew_any _ r s).mono ?_
    rintro e w1 ⟨rfl, hk'⟩
    have K1 := Lib.hid (K0.out.chain0 (Nat.le_refl _) hk')
    clear hk'
    go_wp2_with fail
    refine (lives_any _).mono ?_
    rintro e w2 ⟨rfl, hk'⟩
    have K2 := Lib.hid hk'
    clear hk'
    go_wp2_with fail
    go_ret
    exact ⟨rfl, (K1.out.alloc K1.out.size _).chain0 (Nat.le_refl _) K2.out⟩
  · have hl : (m : Int) ≤ 100 := by omega
    go_enter Try.func5, Try.ntmps5
    go_wp2_with fail
    go_quiet (fail)
    go_wp2_with fail
    refine (new_any _ r s).mono ?_
    rintro e w0 ⟨g, rfl, hg, hb', hk'⟩
    have K0 : Hid (Keep w.heap.size [] w w0) := ((((Keep.refl _ _ w).alloc (Nat.le_refl _) _).drewN _).chain0 (Nat.le_refl _) hk')
    have HB0 := Lib.hid hb'
    have hg' : w.heap.size ≤ g := by simp at hg; omega
    clear hb' hk' hg
    go_wp2_with fail
    refine (rnew_any _ r s).mono ?_
    rintro e w1 ⟨rfl, hk'⟩
    have K1 := Lib.hid hk'
    clear hk'
    go_wp2_with fail
    have HR : Hid (PlaysRel w g w1.heap.size (w1.alloc (.cells #[.int .i64 (newB r s).r, .int .i64 (newB r s).s, .int .i64 (newB r s).l, .int .i64 (newB r s).t] 26))) :=
      ⟨newB r s, new_inv r s, (HB0.out.keepS K1.out (by simp)).alloc _, Blk.new _ _ _, (K0.out.chain0 (Nat.le_refl _) K1.out).alloc (Nat.le_trans K0.out.size K1.out.size) _⟩
    have hx : w.heap.size ≤ w1.heap.size := Nat.le_trans K0.out.size K1.out.size
    clear HB0 K1 K0
    generalize w1.heap.size = x at *
    generalize w1.alloc _ = W1 at *
    go_loopw [9] (fun i wr => PlaysRel w g x wr ∧ ∃ k : Nat, k ≤ m ∧ i = .int .i64 k) (fun i _ => m - (intOf i).toNat)
    case atStart => exact ⟨HR.out, 0, Nat.zero_le _, rfl⟩
    case round =>
      obtain ⟨⟨b, hi, hb, hx', hk⟩, k, hkn, rfl⟩ := hrel
      have HNE := Lib.hid (hb.ne_ hx' (by decide))
      have HB := Lib.hid hb
      have HX := Lib.hid hx'
      have HK := Lib.hid hk
      clear hb hx' hk HR
      by_cases hlt : k < m
      · obtain ⟨bl, off, rfl, hbl, hcs⟩ := hA.2 (by omega)
        obtain ⟨kk, n', t, q0, q1, c0, c1, c2⟩ := hcs k hlt
        have d0 : wr.cell? ⟨bl, off + k * 3, none⟩ = some (.int .u8 kk) := (HK.out.cell (p := ⟨bl, off + k * 3, none⟩) hbl (by simp)).trans c0
        have d1 : wr.cell? ⟨bl, off + k * 3 + 1, none⟩ = some (.int .i64 n') := (HK.out.cell (p := ⟨bl, off + k * 3 + 1, none⟩) hbl (by simp)).trans c1
        have d2 : wr.cell? ⟨bl, off + k * 3 + 2, none⟩ = some (.int .i64 t) := (HK.out.cell (p := ⟨bl, off + k * 3 + 2, none⟩) hbl (by simp)).trans c2
        clear c0 c1 c2 hcs hA
        go_wp2_with fail
        refine (step_any _ g x b hi kk n' t q0 q1 HB.out HX.out).mono ?_
        rintro e w2 ⟨rfl, hb2, hx2, hk2⟩
        have HR2 : Hid (PlaysRel w g x w2) := firstRel_of (step_inv hi kk n' t) hb2 hx2 (HK.out.chain2 (Nat.le_refl _) hk2 hg' hx)
        clear hb2 hx2 hk2 HB HX HK d0 d1 d2
        go_wp2_with fail
        go_roundw
        case rel => exact ⟨HR2.out, k + 1, by omega, by go_num⟩
        case measure => simp [intOf]; omega
      · clear hA
        obtain ⟨T, o, hw⟩ : ∃ T o, b.whens n = (T, o) := ⟨_, _, rfl⟩
        have HW := Lib.hid hw
        clear hw
        go_wp2_with fail
        refine (when_zero _ g b hi n HB.out T o HW.out).mono ?_
        rintro e w2 ⟨rfl, hb2, hk2⟩
        have HB2 := Lib.hid hb2
        have HX2 := Lib.hid (HX.out.keepS hk2 (by simpa using fun e => HNE.out e.symm))
        have HK2 : Hid (Keep w.heap.size [] w w2) := HK.out.chain1 (Nat.le_refl _) hk2 hg'
        clear hb2 hk2 HB HX HK
        go_wp2_with fail
        refine (clone_any _ g b HB2.out).mono ?_
        rintro e w3 ⟨g1, rfl, hg1, hb3, hk3⟩
        have HB3 := Lib.hid hb3
        have HB3' := Lib.hid (HB2.out.keepS hk3 (by simp))
        have HX3 := Lib.hid (HX2.out.keepS hk3 (by simp))
        have HK3 : Hid (Keep w.heap.size [] w w3) := HK2.out.chain0 (Nat.le_refl _) hk3
        have hg1' : w.heap.size ≤ g1 := Nat.le_trans HK2.out.size hg1
        clear hb3 hk3 HB2 HX2 HK2 hg1
        go_wp2_with fail
        refine (clone_any _ g b HB3'.out).mono ?_
        rintro e w4 ⟨g2, rfl, hg2, hb4, hk4⟩
        have HNE2 : Hid (g1 ∉ [g2]) := by have := HB3.out.lt; unfold Hid; simp; omega
        have HB4 := Lib.hid hb4
        have HB4' := Lib.hid (HB3.out.keepS hk4 (by simp))
        have HX4 := Lib.hid (HX3.out.keepS hk4 (by simp))
        have HK4 : Hid (Keep w.heap.size [] w w4) := HK3.out.chain0 (Nat.le_refl _) hk4
        have hg2' : w.heap.size ≤ g2 := Nat.le_trans HK3.out.size hg2
        clear hb4 hk4 HB3 HX3 HK3 hg2 HB3'
        cases o with
        | false =>
          have HT := Lib.hid (late_no b hi n (by rw [HW.out]))
          go_wp2_with fail
          refine (take_v _ g1 b hi n _ false HT.out HB4'.out).mono ?_
          rintro e w5 ⟨rfl, hb5, hk5⟩
          have HK5 : Hid (Keep w.heap.size [] w w5) := HK4.out.chain1 (Nat.le_refl _) hk5 hg1'
          clear hb5 hk5
          go_wp2_with fail
          refine (lives_any _).mono ?_
          rintro e w6 ⟨rfl, hk'⟩
          have K6 := Lib.hid hk'
          clear hk'
          go_wp2_with fail
          go_ret
          exact ⟨rfl, HK5.out.chain0 (Nat.le_refl _) K6.out⟩
        | true =>
          obtain ⟨y1, y2, y3, y4⟩ := late_yes b hi n (by rw [HW.out])
          rw [HW.out] at y1 y2 y3 y4
          simp only at y1 y2 y3 y4
          have HT := Lib.hid y1
          have HT2 := Lib.hid y2
          clear y1 y2
          have e0 : w4.cell? ⟨x, 3, none⟩ = some (.int .i64 b.t) := HX4.out.cell 3
          have it := hi.t0
          by_cases hbt : b.t < T
          · go_wp2_with fail
            refine (take_v _ g2 b hi n _ false (HT2.out hbt) HB4.out).mono ?_
            rintro e w5 ⟨rfl, hb5, hk5⟩
            have HB5 := Lib.hid (HB4'.out.keepS hk5 HNE2.out)
            have HK5 : Hid (Keep w.heap.size [] w w5) := HK4.out.chain1 (Nat.le_refl _) hk5 hg2'
            clear hb5 hk5
            go_wp2_with fail
            refine (take_v _ g1 b hi n _ true HT.out HB5.out).mono ?_
            rintro e w6 ⟨rfl, hb6, hk6⟩
            have HK6 : Hid (Keep w.heap.size [] w w6) := HK5.out.chain1 (Nat.le_refl _) hk6 hg1'
            clear hb6 hk6
            go_wp2_with fail
            refine (lives_any _).mono ?_
            rintro e w7 ⟨rfl, hk'⟩
            have K7 := Lib.hid hk'
            clear hk'
            go_wp2_with fail
            go_ret
            exact ⟨rfl, HK6.out.chain0 (Nat.le_refl _) K7.out⟩
          · go_wp2_with fail
            refine (take_v _ g1 b hi n _ true HT.out HB4'.out).mono ?_
            rintro e w6 ⟨rfl, hb6, hk6⟩
            have HK6 : Hid (Keep w.heap.size [] w w6) := HK4.out.chain1 (Nat.le_refl _) hk6 hg1'
            clear hb6 hk6
            go_wp2_with fail
            refine (lives_any _).mono ?_
            rintro e w7 ⟨rfl, hk'⟩
            have K7 := Lib.hid hk'
            clear hk'
            go_wp2_with fail
            go_ret
            exact ⟨rfl, HK6.out.chain0 (Nat.le_refl _) K7.out⟩
end Go.Proofs.Ytppmbigmpilggaa
