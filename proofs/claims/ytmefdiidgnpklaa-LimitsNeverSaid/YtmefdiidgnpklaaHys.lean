/- The law LimitsHysteresis: its walk. -/
import Derived.Test.YtmefdiidgnpklaaPlays
namespace Go.Proofs.Ytmefdiidgnpklaa
set_option linter.unusedVariables false
set_option linter.unusedSimpArgs false
open Go.RowKit
theorem feed_l (W : Wt) (v : Int) : (W.feed v).l = W.l := rfl
theorem feed_s (W : Wt) (v : Int) : (W.feed v).s = W.s := rfl
theorem feed_last (W : Wt) (v x : Int) (n : Nat) (h : W.next v = x) (hn : x = (n : Int)) : (W.feed v).last = x := by
  rw [Wt.feed, h, hn]
  simp [Wt.bump]
theorem newOk_zero (l : Li) (s : Int) (h : newOk l s = true) : newOk l 0 = true := by
  have h' := (newOk_iff l s).1 h
  exact (newOk_iff l 0).2 ⟨h'.1, Int.le_refl _, by omega⟩
theorem sev_r (w : World) (x y : Int) (h0 : 0 ≤ x) (h1 : x ≤ 4) (h : sev x = y) :
    Calls Try.prog 18 #[.int .i64 x] w fun e w' => e = .returned (.int .i64 y) ∧ w = w' := h ▸ sev_any w x h0 h1
/-- the watch w and the plain watch p -/
structure HRel (w : World) (g p : Nat) (l : Li) (s : Int) (W Q : Wt) (wr : World) : Prop where
  keep : Keep w.heap.size [] w wr
  box : Blk wr w.heap.size 23 (lcells l)
  wi : W.Inv
  wl : W.l = l
  ws : W.s = s
  wb : Blk wr g 42 (wcells W)
  qi : Q.Inv
  ql : Q.l = l
  qs : Q.s = 0
  qb : Blk wr p 42 (wcells Q)

set_option maxHeartbeats 2000000 in
theorem hys_out (w : World) (l : Li) (hf : l.Fit) (s : Int) (hs : Fit s) (A : Option Addr) (n c : Nat) (hn : n ≤ 9223372036854775807) (h : 200 < n ∨ newOk l s = false) :
    Calls Try.prog 5 #[lagg l, .int .i64 s, .slice A n c] w (LawPost w) := by
  by_cases hlt : 200 < n
  · have hl : (200 : Int) < (n : Int) := by omega
    clear h
    go_enter Try.func5, Try.ntmps5
    go_wp2_with fail
    refine (lives_any _).mono ?_
    rintro e wl ⟨rfl, hk⟩
    have KL : Hid (Keep w.heap.size [] w wl) := (keep_a1 w _).chain0 (Nat.le_refl _) hk
    clear hk
    go_wp2_with fail
    go_ret
    exact ⟨rfl, KL.out⟩
  have hl : (n : Int) ≤ 200 := by omega
  have HOK : Hid (newOk l s = false) := by rcases h with h | h; exact absurd h hlt; exact h
  clear h
  cases h0 : newOk l 0
  all_goals
    have HO0 := Lib.hid h0
    clear h0
    go_enter Try.func5, Try.ntmps5
    go_wp2_with fail
    refine (new_no _ l s hf hs HOK.out).mono ?_
    rintro e w1 ⟨rfl, hk⟩
    have K1 : Hid (Keep w.heap.size [] w w1) := (keep_a1 w _).chain0 (Nat.le_refl _) hk
    have HL := Lib.hid ((Blk.new w 23 (lcells l)).keepS hk (by simp))
    have d0 := box4 HL.out
    clear hk
    go_wp2_with fail
  · refine (new_no _ l 0 hf (by decide) HO0.out).mono ?_
    rintro e w2 ⟨rfl, hk⟩
    have K2 : Hid (Keep w.heap.size [] w w2) := K1.out.chain0 (Nat.le_refl _) hk
    clear hk
    go_wp2_with fail
    refine (lives_any _).mono ?_
    rintro e wl ⟨rfl, hk⟩
    have KL : Hid (Keep w.heap.size [] w wl) := K2.out.chain0 (Nat.le_refl _) hk
    clear hk
    go_wp2_with fail
    go_ret
    exact ⟨rfl, KL.out⟩
  · refine (new_yes _ l 0 hf (by decide) HO0.out).mono ?_
    rintro e w2 ⟨g2, rfl, hg2, hb2, hk⟩
    have K2 : Hid (Keep w.heap.size [] w w2) := K1.out.chain0 (Nat.le_refl _) hk
    clear hk
    go_wp2_with fail
    refine (lives_any _).mono ?_
    rintro e wl ⟨rfl, hk⟩
    have KL : Hid (Keep w.heap.size [] w wl) := K2.out.chain0 (Nat.le_refl _) hk
    clear hk
    go_wp2_with fail
    go_ret
    exact ⟨rfl, KL.out⟩

set_option maxRecDepth 100000 in
set_option maxHeartbeats 8000000 in
theorem hys_in (w : World) (l : Li) (hf : l.Fit) (s : Int) (hs : Fit s) (A : Option Addr) (n c : Nat) (hA : IntsAt w w.heap.size A n) (hl : (n : Int) ≤ 200) (hok : newOk l s = true) :
    Calls Try.prog 5 #[lagg l, .int .i64 s, .slice A n c] w (LawPost w) := by
  have hn := hA.1
  have HO0 := Lib.hid (newOk_zero l s hok)
  have HOK := Lib.hid hok
  clear hok
  go_enter Try.func5, Try.ntmps5
  go_wp2_with fail
  refine (new_yes _ l s hf hs HOK.out).mono ?_
  rintro e w1 ⟨g, rfl, hg, hb, hk⟩
  have K1 : Hid (Keep w.heap.size [] w w1) := (keep_a1 w _).chain0 (Nat.le_refl _) hk
  have HL := Lib.hid ((Blk.new w 23 (lcells l)).keepS hk (by simp))
  have HB1 := Lib.hid hb
  have d0 := box4 HL.out
  have hg' : w.heap.size < g := by simp at hg; omega
  clear hk hb hg
  go_wp2_with fail
  refine (new_yes _ l 0 hf (by decide) HO0.out).mono ?_
  rintro e w2 ⟨p, rfl, hp, hb, hk⟩
  have HR : Hid (HRel w g p l s (newW l s) (newW l 0) w2) := ⟨K1.out.chain0 (Nat.le_refl _) hk, HL.out.keepS hk (by simp), newW_inv l s hf hs HOK.out, rfl, rfl, HB1.out.keepS hk (by simp), newW_inv l 0 hf (by decide) HO0.out, rfl, rfl, hb⟩
  have hgp : g < p := Nat.lt_of_lt_of_le HB1.out.lt hp
  clear hk hb hp HB1 HL d0 K1 HO0 HOK
  go_wp2_with fail
  go_loopw [11, 12] (fun la i wr => (∃ W Q, HRel w g p l s W Q wr ∧ la = .int .i64 W.last) ∧ ∃ k : Nat, k ≤ n ∧ i = .int .i64 k) (fun _ i _ => n - (intOf i).toNat)
  case atStart => exact ⟨⟨_, _, HR.out, rfl⟩, 0, Nat.zero_le _, rfl⟩
  case round =>
    obtain ⟨⟨W, Q, hr, hla⟩, k, hkn, rfl⟩ := hrel
    have HR2 := Lib.hid hr
    have HI := Lib.hid hr.wi.last
    have hbd := inv_bd W hr.wi
    rw [hr.wl, hr.ws] at hbd
    obtain ⟨⟨b1, b2⟩, ⟨b3, b4⟩, ⟨b5, b6⟩, b7, b8⟩ := hbd
    clear hr HR
    by_cases hlt : k < n
    · obtain ⟨bl, off, rfl, hbl, hcs⟩ := hA.2 (by omega)
      obtain ⟨v, hv, c0'⟩ := hcs k hlt
      have c0 : wr.cell? ⟨bl, off + k, none⟩ = some (.int .i64 v) := (HR2.out.keep.cell (p := ⟨bl, off + k, none⟩) hbl (by simp)).trans c0'
      have d0 := box4 HR2.out.box
      have HV := Lib.hid hv
      have HP : Hid (Q.next v = l.check v) := by unfold Hid; rw [next_plain Q v HR2.out.qi HR2.out.qs, HR2.out.ql]
      have HLA := Lib.hid hla
      clear c0' hcs hA hv hla
      go_wp2_with fail
      go_region_held3 (fun w' => w'.cell? ⟨bl, off + k, none⟩ = some (.int .i64 v) ∧ w'.cell? ⟨w.heap.size, 0, none⟩ = some (.int .i64 l.hl) ∧ w'.cell? ⟨w.heap.size, 1, none⟩ = some (.int .i64 l.sl) ∧ w'.cell? ⟨w.heap.size, 2, none⟩ = some (.int .i64 l.sh) ∧ w'.cell? ⟨w.heap.size, 3, none⟩ = some (.int .i64 l.hh))
        (first | exact ⟨c0, d0⟩ | exact ⟨c1, d1⟩ | exact ⟨c2, d2⟩)
        (first
          | (go_at_call 15
             refine (feed_r _ p Q HR2.out.qi v HV.out (by exact HR2.out.qb) _ HP.out).mono ?_
             rintro e w3 ⟨rfl, hb1, hk1⟩
             have k1 := hk1.undrew
             have c1 : w3.cell? ⟨bl, off + k, none⟩ = some (.int .i64 v) := (k1.cell (p := ⟨bl, off + k, none⟩) (Nat.lt_of_lt_of_le hbl HR2.out.keep.size) (one_no (by simp only; omega))).trans c0
             have HR3 : Hid (HRel w g p l s W (Q.feed v) w3) := ⟨HR2.out.keep.chain1 (Nat.le_refl _) k1 (by omega), HR2.out.box.keepS k1 (one_no (by omega)), HR2.out.wi, HR2.out.wl, HR2.out.ws, HR2.out.wb.keepS k1 (one_no (by omega)), feed_inv HR2.out.qi v, HR2.out.ql, HR2.out.qs, hb1⟩
             have d1 := box4 HR3.out.box
             clear hb1 hk1 k1)
          | (go_at_call 10
             refine (check_k _ l v).mono ?_
             rintro e w4 ⟨rfl, hk3⟩
             have c2 : w4.cell? ⟨bl, off + k, none⟩ = some (.int .i64 v) := (hk3.cell (p := ⟨bl, off + k, none⟩) (Nat.lt_of_lt_of_le hbl HR3.out.keep.size) (by simp)).trans c1
             have HR4 : Hid (HRel w g p l s W (Q.feed v) w4) := ⟨HR3.out.keep.chain0 (Nat.le_refl _) hk3, HR3.out.box.keepS hk3 (by simp), HR3.out.wi, HR3.out.wl, HR3.out.ws, HR3.out.wb.keepS hk3 (by simp), HR3.out.qi, HR3.out.ql, HR3.out.qs, HR3.out.qb.keepS hk3 (by simp)⟩
             have d2 := box4 HR4.out.box
             clear hk3))
      clear c0 c1 c2 d0 d1 d2 HR2 HR3
      go_wp2_with fail
      rcases HI.out with hlast | hlast | hlast | hlast | hlast
      · have hu : u11 = .int .i64 0 := by rw [HLA.out, hlast]
        subst hu
        rcases next_cases W v with hx | hx | hx | hx | hx
        · have HX := Lib.hid hx
          have hh := next_soft W v HR4.out.wi hx
          rw [HR4.out.wl, HR4.out.ws, hlast] at hh
          clear hh
          clear hx hlast
          refine (feed_r _ g W HR4.out.wi v HV.out HR4.out.wb 0 HX.out).mono ?_
          rintro e w5 ⟨rfl, hb5, hk5⟩
          have HR5 : Hid (HRel w g p l s (W.feed v) (Q.feed v) w5) := ⟨HR4.out.keep.chain1 (Nat.le_refl _) hk5 (by omega), HR4.out.box.keepS hk5 (one_no (by omega)), feed_inv HR4.out.wi v, HR4.out.wl, HR4.out.ws, hb5, HR4.out.qi, HR4.out.ql, HR4.out.qs, HR4.out.qb.keepS hk5 (one_no (by omega))⟩
          obtain ⟨d0, d1, d2, d3⟩ := box4 HR5.out.box
          have HLL : Hid ((W.feed v).last = 0) := feed_last W v 0 0 HX.out rfl
          clear hb5 hk5 HR4
          go_wp2_with fail
          refine (sev_r _ 0 0 (by decide) (by decide) (by decide)).mono ?_
          rintro e w' ⟨rfl, rfl⟩
          go_wp2_with fail
          refine (sev_r _ 0 0 (by decide) (by decide) (by decide)).mono ?_
          rintro e w' ⟨rfl, rfl⟩
          go_wp2_with fail
          go_roundw
          case rel => exact ⟨⟨_, _, HR5.out, by rw [HLL.out]⟩, k + 1, by omega, by go_num⟩
          case measure => simp [intOf]; omega
        · have HX := Lib.hid hx
          clear hx hlast
          refine (feed_r _ g W HR4.out.wi v HV.out HR4.out.wb 1 HX.out).mono ?_
          rintro e w5 ⟨rfl, hb5, hk5⟩
          have HR5 : Hid (HRel w g p l s (W.feed v) (Q.feed v) w5) := ⟨HR4.out.keep.chain1 (Nat.le_refl _) hk5 (by omega), HR4.out.box.keepS hk5 (one_no (by omega)), feed_inv HR4.out.wi v, HR4.out.wl, HR4.out.ws, hb5, HR4.out.qi, HR4.out.ql, HR4.out.qs, HR4.out.qb.keepS hk5 (one_no (by omega))⟩
          obtain ⟨d0, d1, d2, d3⟩ := box4 HR5.out.box
          have HLL : Hid ((W.feed v).last = 1) := feed_last W v 1 1 HX.out rfl
          clear hb5 hk5 HR4
          go_wp2_with fail
          refine (sev_r _ 1 1 (by decide) (by decide) (by decide)).mono ?_
          rintro e w' ⟨rfl, rfl⟩
          go_wp2_with fail
          refine (sev_r _ 0 0 (by decide) (by decide) (by decide)).mono ?_
          rintro e w' ⟨rfl, rfl⟩
          go_wp2_with fail
          go_roundw
          case rel => exact ⟨⟨_, _, HR5.out, by rw [HLL.out]⟩, k + 1, by omega, by go_num⟩
          case measure => simp [intOf]; omega
        · have HX := Lib.hid hx
          clear hx hlast
          refine (feed_r _ g W HR4.out.wi v HV.out HR4.out.wb 2 HX.out).mono ?_
          rintro e w5 ⟨rfl, hb5, hk5⟩
          have HR5 : Hid (HRel w g p l s (W.feed v) (Q.feed v) w5) := ⟨HR4.out.keep.chain1 (Nat.le_refl _) hk5 (by omega), HR4.out.box.keepS hk5 (one_no (by omega)), feed_inv HR4.out.wi v, HR4.out.wl, HR4.out.ws, hb5, HR4.out.qi, HR4.out.ql, HR4.out.qs, HR4.out.qb.keepS hk5 (one_no (by omega))⟩
          obtain ⟨d0, d1, d2, d3⟩ := box4 HR5.out.box
          have HLL : Hid ((W.feed v).last = 2) := feed_last W v 2 2 HX.out rfl
          clear hb5 hk5 HR4
          go_wp2_with fail
          refine (sev_r _ 2 1 (by decide) (by decide) (by decide)).mono ?_
          rintro e w' ⟨rfl, rfl⟩
          go_wp2_with fail
          refine (sev_r _ 0 0 (by decide) (by decide) (by decide)).mono ?_
          rintro e w' ⟨rfl, rfl⟩
          go_wp2_with fail
          go_roundw
          case rel => exact ⟨⟨_, _, HR5.out, by rw [HLL.out]⟩, k + 1, by omega, by go_num⟩
          case measure => simp [intOf]; omega
        · have HX := Lib.hid hx
          clear hx hlast
          refine (feed_r _ g W HR4.out.wi v HV.out HR4.out.wb 3 HX.out).mono ?_
          rintro e w5 ⟨rfl, hb5, hk5⟩
          have HR5 : Hid (HRel w g p l s (W.feed v) (Q.feed v) w5) := ⟨HR4.out.keep.chain1 (Nat.le_refl _) hk5 (by omega), HR4.out.box.keepS hk5 (one_no (by omega)), feed_inv HR4.out.wi v, HR4.out.wl, HR4.out.ws, hb5, HR4.out.qi, HR4.out.ql, HR4.out.qs, HR4.out.qb.keepS hk5 (one_no (by omega))⟩
          obtain ⟨d0, d1, d2, d3⟩ := box4 HR5.out.box
          have HLL : Hid ((W.feed v).last = 3) := feed_last W v 3 3 HX.out rfl
          clear hb5 hk5 HR4
          go_wp2_with fail
          refine (sev_r _ 3 2 (by decide) (by decide) (by decide)).mono ?_
          rintro e w' ⟨rfl, rfl⟩
          go_wp2_with fail
          refine (sev_r _ 0 0 (by decide) (by decide) (by decide)).mono ?_
          rintro e w' ⟨rfl, rfl⟩
          go_wp2_with fail
          go_roundw
          case rel => exact ⟨⟨_, _, HR5.out, by rw [HLL.out]⟩, k + 1, by omega, by go_num⟩
          case measure => simp [intOf]; omega
        · have HX := Lib.hid hx
          clear hx hlast
          refine (feed_r _ g W HR4.out.wi v HV.out HR4.out.wb 4 HX.out).mono ?_
          rintro e w5 ⟨rfl, hb5, hk5⟩
          have HR5 : Hid (HRel w g p l s (W.feed v) (Q.feed v) w5) := ⟨HR4.out.keep.chain1 (Nat.le_refl _) hk5 (by omega), HR4.out.box.keepS hk5 (one_no (by omega)), feed_inv HR4.out.wi v, HR4.out.wl, HR4.out.ws, hb5, HR4.out.qi, HR4.out.ql, HR4.out.qs, HR4.out.qb.keepS hk5 (one_no (by omega))⟩
          obtain ⟨d0, d1, d2, d3⟩ := box4 HR5.out.box
          have HLL : Hid ((W.feed v).last = 4) := feed_last W v 4 4 HX.out rfl
          clear hb5 hk5 HR4
          go_wp2_with fail
          refine (sev_r _ 4 2 (by decide) (by decide) (by decide)).mono ?_
          rintro e w' ⟨rfl, rfl⟩
          go_wp2_with fail
          refine (sev_r _ 0 0 (by decide) (by decide) (by decide)).mono ?_
          rintro e w' ⟨rfl, rfl⟩
          go_wp2_with fail
          go_roundw
          case rel => exact ⟨⟨_, _, HR5.out, by rw [HLL.out]⟩, k + 1, by omega, by go_num⟩
          case measure => simp [intOf]; omega
      · have hu : u11 = .int .i64 1 := by rw [HLA.out, hlast]
        subst hu
        rcases next_cases W v with hx | hx | hx | hx | hx
        · have HX := Lib.hid hx
          have hh := next_hard W v HR4.out.wi (by rw [hx, hlast]; decide)
          rw [HR4.out.wl, HR4.out.ws, hlast] at hh
          clear hh
          have hh := next_soft W v HR4.out.wi hx
          rw [HR4.out.wl, HR4.out.ws, hlast] at hh
          have t2 : l.sl + s ≤ v := by omega
          clear hh
          clear hx hlast
          refine (feed_r _ g W HR4.out.wi v HV.out HR4.out.wb 0 HX.out).mono ?_
          rintro e w5 ⟨rfl, hb5, hk5⟩
          have HR5 : Hid (HRel w g p l s (W.feed v) (Q.feed v) w5) := ⟨HR4.out.keep.chain1 (Nat.le_refl _) hk5 (by omega), HR4.out.box.keepS hk5 (one_no (by omega)), feed_inv HR4.out.wi v, HR4.out.wl, HR4.out.ws, hb5, HR4.out.qi, HR4.out.ql, HR4.out.qs, HR4.out.qb.keepS hk5 (one_no (by omega))⟩
          obtain ⟨d0, d1, d2, d3⟩ := box4 HR5.out.box
          have HLL : Hid ((W.feed v).last = 0) := feed_last W v 0 0 HX.out rfl
          clear hb5 hk5 HR4
          go_wp2_with fail
          refine (sev_r _ 0 0 (by decide) (by decide) (by decide)).mono ?_
          rintro e w' ⟨rfl, rfl⟩
          go_wp2_with fail
          refine (sev_r _ 1 1 (by decide) (by decide) (by decide)).mono ?_
          rintro e w' ⟨rfl, rfl⟩
          go_wp2_with fail
          go_roundw
          case rel => exact ⟨⟨_, _, HR5.out, by rw [HLL.out]⟩, k + 1, by omega, by go_num⟩
          case measure => simp [intOf]; omega
        · have HX := Lib.hid hx
          clear hx hlast
          refine (feed_r _ g W HR4.out.wi v HV.out HR4.out.wb 1 HX.out).mono ?_
          rintro e w5 ⟨rfl, hb5, hk5⟩
          have HR5 : Hid (HRel w g p l s (W.feed v) (Q.feed v) w5) := ⟨HR4.out.keep.chain1 (Nat.le_refl _) hk5 (by omega), HR4.out.box.keepS hk5 (one_no (by omega)), feed_inv HR4.out.wi v, HR4.out.wl, HR4.out.ws, hb5, HR4.out.qi, HR4.out.ql, HR4.out.qs, HR4.out.qb.keepS hk5 (one_no (by omega))⟩
          obtain ⟨d0, d1, d2, d3⟩ := box4 HR5.out.box
          have HLL : Hid ((W.feed v).last = 1) := feed_last W v 1 1 HX.out rfl
          clear hb5 hk5 HR4
          go_wp2_with fail
          refine (sev_r _ 1 1 (by decide) (by decide) (by decide)).mono ?_
          rintro e w' ⟨rfl, rfl⟩
          go_wp2_with fail
          refine (sev_r _ 1 1 (by decide) (by decide) (by decide)).mono ?_
          rintro e w' ⟨rfl, rfl⟩
          go_wp2_with fail
          go_roundw
          case rel => exact ⟨⟨_, _, HR5.out, by rw [HLL.out]⟩, k + 1, by omega, by go_num⟩
          case measure => simp [intOf]; omega
        · have HX := Lib.hid hx
          clear hx hlast
          refine (feed_r _ g W HR4.out.wi v HV.out HR4.out.wb 2 HX.out).mono ?_
          rintro e w5 ⟨rfl, hb5, hk5⟩
          have HR5 : Hid (HRel w g p l s (W.feed v) (Q.feed v) w5) := ⟨HR4.out.keep.chain1 (Nat.le_refl _) hk5 (by omega), HR4.out.box.keepS hk5 (one_no (by omega)), feed_inv HR4.out.wi v, HR4.out.wl, HR4.out.ws, hb5, HR4.out.qi, HR4.out.ql, HR4.out.qs, HR4.out.qb.keepS hk5 (one_no (by omega))⟩
          obtain ⟨d0, d1, d2, d3⟩ := box4 HR5.out.box
          have HLL : Hid ((W.feed v).last = 2) := feed_last W v 2 2 HX.out rfl
          clear hb5 hk5 HR4
          go_wp2_with fail
          refine (sev_r _ 2 1 (by decide) (by decide) (by decide)).mono ?_
          rintro e w' ⟨rfl, rfl⟩
          go_wp2_with fail
          refine (sev_r _ 1 1 (by decide) (by decide) (by decide)).mono ?_
          rintro e w' ⟨rfl, rfl⟩
          go_wp2_with fail
          go_roundw
          case rel => exact ⟨⟨_, _, HR5.out, by rw [HLL.out]⟩, k + 1, by omega, by go_num⟩
          case measure => simp [intOf]; omega
        · have HX := Lib.hid hx
          clear hx hlast
          refine (feed_r _ g W HR4.out.wi v HV.out HR4.out.wb 3 HX.out).mono ?_
          rintro e w5 ⟨rfl, hb5, hk5⟩
          have HR5 : Hid (HRel w g p l s (W.feed v) (Q.feed v) w5) := ⟨HR4.out.keep.chain1 (Nat.le_refl _) hk5 (by omega), HR4.out.box.keepS hk5 (one_no (by omega)), feed_inv HR4.out.wi v, HR4.out.wl, HR4.out.ws, hb5, HR4.out.qi, HR4.out.ql, HR4.out.qs, HR4.out.qb.keepS hk5 (one_no (by omega))⟩
          obtain ⟨d0, d1, d2, d3⟩ := box4 HR5.out.box
          have HLL : Hid ((W.feed v).last = 3) := feed_last W v 3 3 HX.out rfl
          clear hb5 hk5 HR4
          go_wp2_with fail
          refine (sev_r _ 3 2 (by decide) (by decide) (by decide)).mono ?_
          rintro e w' ⟨rfl, rfl⟩
          go_wp2_with fail
          refine (sev_r _ 1 1 (by decide) (by decide) (by decide)).mono ?_
          rintro e w' ⟨rfl, rfl⟩
          go_wp2_with fail
          go_roundw
          case rel => exact ⟨⟨_, _, HR5.out, by rw [HLL.out]⟩, k + 1, by omega, by go_num⟩
          case measure => simp [intOf]; omega
        · have HX := Lib.hid hx
          clear hx hlast
          refine (feed_r _ g W HR4.out.wi v HV.out HR4.out.wb 4 HX.out).mono ?_
          rintro e w5 ⟨rfl, hb5, hk5⟩
          have HR5 : Hid (HRel w g p l s (W.feed v) (Q.feed v) w5) := ⟨HR4.out.keep.chain1 (Nat.le_refl _) hk5 (by omega), HR4.out.box.keepS hk5 (one_no (by omega)), feed_inv HR4.out.wi v, HR4.out.wl, HR4.out.ws, hb5, HR4.out.qi, HR4.out.ql, HR4.out.qs, HR4.out.qb.keepS hk5 (one_no (by omega))⟩
          obtain ⟨d0, d1, d2, d3⟩ := box4 HR5.out.box
          have HLL : Hid ((W.feed v).last = 4) := feed_last W v 4 4 HX.out rfl
          clear hb5 hk5 HR4
          go_wp2_with fail
          refine (sev_r _ 4 2 (by decide) (by decide) (by decide)).mono ?_
          rintro e w' ⟨rfl, rfl⟩
          go_wp2_with fail
          refine (sev_r _ 1 1 (by decide) (by decide) (by decide)).mono ?_
          rintro e w' ⟨rfl, rfl⟩
          go_wp2_with fail
          go_roundw
          case rel => exact ⟨⟨_, _, HR5.out, by rw [HLL.out]⟩, k + 1, by omega, by go_num⟩
          case measure => simp [intOf]; omega
      · have hu : u11 = .int .i64 2 := by rw [HLA.out, hlast]
        subst hu
        rcases next_cases W v with hx | hx | hx | hx | hx
        · have HX := Lib.hid hx
          have hh := next_hard W v HR4.out.wi (by rw [hx, hlast]; decide)
          rw [HR4.out.wl, HR4.out.ws, hlast] at hh
          clear hh
          have hh := next_soft W v HR4.out.wi hx
          rw [HR4.out.wl, HR4.out.ws, hlast] at hh
          have t2 : v ≤ l.sh - s := by omega
          clear hh
          clear hx hlast
          refine (feed_r _ g W HR4.out.wi v HV.out HR4.out.wb 0 HX.out).mono ?_
          rintro e w5 ⟨rfl, hb5, hk5⟩
          have HR5 : Hid (HRel w g p l s (W.feed v) (Q.feed v) w5) := ⟨HR4.out.keep.chain1 (Nat.le_refl _) hk5 (by omega), HR4.out.box.keepS hk5 (one_no (by omega)), feed_inv HR4.out.wi v, HR4.out.wl, HR4.out.ws, hb5, HR4.out.qi, HR4.out.ql, HR4.out.qs, HR4.out.qb.keepS hk5 (one_no (by omega))⟩
          obtain ⟨d0, d1, d2, d3⟩ := box4 HR5.out.box
          have HLL : Hid ((W.feed v).last = 0) := feed_last W v 0 0 HX.out rfl
          clear hb5 hk5 HR4
          go_wp2_with fail
          refine (sev_r _ 0 0 (by decide) (by decide) (by decide)).mono ?_
          rintro e w' ⟨rfl, rfl⟩
          go_wp2_with fail
          refine (sev_r _ 2 1 (by decide) (by decide) (by decide)).mono ?_
          rintro e w' ⟨rfl, rfl⟩
          go_wp2_with fail
          go_roundw
          case rel => exact ⟨⟨_, _, HR5.out, by rw [HLL.out]⟩, k + 1, by omega, by go_num⟩
          case measure => simp [intOf]; omega
        · have HX := Lib.hid hx
          clear hx hlast
          refine (feed_r _ g W HR4.out.wi v HV.out HR4.out.wb 1 HX.out).mono ?_
          rintro e w5 ⟨rfl, hb5, hk5⟩
          have HR5 : Hid (HRel w g p l s (W.feed v) (Q.feed v) w5) := ⟨HR4.out.keep.chain1 (Nat.le_refl _) hk5 (by omega), HR4.out.box.keepS hk5 (one_no (by omega)), feed_inv HR4.out.wi v, HR4.out.wl, HR4.out.ws, hb5, HR4.out.qi, HR4.out.ql, HR4.out.qs, HR4.out.qb.keepS hk5 (one_no (by omega))⟩
          obtain ⟨d0, d1, d2, d3⟩ := box4 HR5.out.box
          have HLL : Hid ((W.feed v).last = 1) := feed_last W v 1 1 HX.out rfl
          clear hb5 hk5 HR4
          go_wp2_with fail
          refine (sev_r _ 1 1 (by decide) (by decide) (by decide)).mono ?_
          rintro e w' ⟨rfl, rfl⟩
          go_wp2_with fail
          refine (sev_r _ 2 1 (by decide) (by decide) (by decide)).mono ?_
          rintro e w' ⟨rfl, rfl⟩
          go_wp2_with fail
          go_roundw
          case rel => exact ⟨⟨_, _, HR5.out, by rw [HLL.out]⟩, k + 1, by omega, by go_num⟩
          case measure => simp [intOf]; omega
        · have HX := Lib.hid hx
          clear hx hlast
          refine (feed_r _ g W HR4.out.wi v HV.out HR4.out.wb 2 HX.out).mono ?_
          rintro e w5 ⟨rfl, hb5, hk5⟩
          have HR5 : Hid (HRel w g p l s (W.feed v) (Q.feed v) w5) := ⟨HR4.out.keep.chain1 (Nat.le_refl _) hk5 (by omega), HR4.out.box.keepS hk5 (one_no (by omega)), feed_inv HR4.out.wi v, HR4.out.wl, HR4.out.ws, hb5, HR4.out.qi, HR4.out.ql, HR4.out.qs, HR4.out.qb.keepS hk5 (one_no (by omega))⟩
          obtain ⟨d0, d1, d2, d3⟩ := box4 HR5.out.box
          have HLL : Hid ((W.feed v).last = 2) := feed_last W v 2 2 HX.out rfl
          clear hb5 hk5 HR4
          go_wp2_with fail
          refine (sev_r _ 2 1 (by decide) (by decide) (by decide)).mono ?_
          rintro e w' ⟨rfl, rfl⟩
          go_wp2_with fail
          refine (sev_r _ 2 1 (by decide) (by decide) (by decide)).mono ?_
          rintro e w' ⟨rfl, rfl⟩
          go_wp2_with fail
          go_roundw
          case rel => exact ⟨⟨_, _, HR5.out, by rw [HLL.out]⟩, k + 1, by omega, by go_num⟩
          case measure => simp [intOf]; omega
        · have HX := Lib.hid hx
          clear hx hlast
          refine (feed_r _ g W HR4.out.wi v HV.out HR4.out.wb 3 HX.out).mono ?_
          rintro e w5 ⟨rfl, hb5, hk5⟩
          have HR5 : Hid (HRel w g p l s (W.feed v) (Q.feed v) w5) := ⟨HR4.out.keep.chain1 (Nat.le_refl _) hk5 (by omega), HR4.out.box.keepS hk5 (one_no (by omega)), feed_inv HR4.out.wi v, HR4.out.wl, HR4.out.ws, hb5, HR4.out.qi, HR4.out.ql, HR4.out.qs, HR4.out.qb.keepS hk5 (one_no (by omega))⟩
          obtain ⟨d0, d1, d2, d3⟩ := box4 HR5.out.box
          have HLL : Hid ((W.feed v).last = 3) := feed_last W v 3 3 HX.out rfl
          clear hb5 hk5 HR4
          go_wp2_with fail
          refine (sev_r _ 3 2 (by decide) (by decide) (by decide)).mono ?_
          rintro e w' ⟨rfl, rfl⟩
          go_wp2_with fail
          refine (sev_r _ 2 1 (by decide) (by decide) (by decide)).mono ?_
          rintro e w' ⟨rfl, rfl⟩
          go_wp2_with fail
          go_roundw
          case rel => exact ⟨⟨_, _, HR5.out, by rw [HLL.out]⟩, k + 1, by omega, by go_num⟩
          case measure => simp [intOf]; omega
        · have HX := Lib.hid hx
          clear hx hlast
          refine (feed_r _ g W HR4.out.wi v HV.out HR4.out.wb 4 HX.out).mono ?_
          rintro e w5 ⟨rfl, hb5, hk5⟩
          have HR5 : Hid (HRel w g p l s (W.feed v) (Q.feed v) w5) := ⟨HR4.out.keep.chain1 (Nat.le_refl _) hk5 (by omega), HR4.out.box.keepS hk5 (one_no (by omega)), feed_inv HR4.out.wi v, HR4.out.wl, HR4.out.ws, hb5, HR4.out.qi, HR4.out.ql, HR4.out.qs, HR4.out.qb.keepS hk5 (one_no (by omega))⟩
          obtain ⟨d0, d1, d2, d3⟩ := box4 HR5.out.box
          have HLL : Hid ((W.feed v).last = 4) := feed_last W v 4 4 HX.out rfl
          clear hb5 hk5 HR4
          go_wp2_with fail
          refine (sev_r _ 4 2 (by decide) (by decide) (by decide)).mono ?_
          rintro e w' ⟨rfl, rfl⟩
          go_wp2_with fail
          refine (sev_r _ 2 1 (by decide) (by decide) (by decide)).mono ?_
          rintro e w' ⟨rfl, rfl⟩
          go_wp2_with fail
          go_roundw
          case rel => exact ⟨⟨_, _, HR5.out, by rw [HLL.out]⟩, k + 1, by omega, by go_num⟩
          case measure => simp [intOf]; omega
      · have hu : u11 = .int .i64 3 := by rw [HLA.out, hlast]
        subst hu
        rcases next_cases W v with hx | hx | hx | hx | hx
        · have HX := Lib.hid hx
          have hh := next_hard W v HR4.out.wi (by rw [hx, hlast]; decide)
          rw [HR4.out.wl, HR4.out.ws, hlast] at hh
          have t1 : l.hl + s ≤ v := by omega
          clear hh
          have hh := next_soft W v HR4.out.wi hx
          rw [HR4.out.wl, HR4.out.ws, hlast] at hh
          have t2 : l.sl + s ≤ v := by omega
          clear hh
          clear hx hlast
          refine (feed_r _ g W HR4.out.wi v HV.out HR4.out.wb 0 HX.out).mono ?_
          rintro e w5 ⟨rfl, hb5, hk5⟩
          have HR5 : Hid (HRel w g p l s (W.feed v) (Q.feed v) w5) := ⟨HR4.out.keep.chain1 (Nat.le_refl _) hk5 (by omega), HR4.out.box.keepS hk5 (one_no (by omega)), feed_inv HR4.out.wi v, HR4.out.wl, HR4.out.ws, hb5, HR4.out.qi, HR4.out.ql, HR4.out.qs, HR4.out.qb.keepS hk5 (one_no (by omega))⟩
          obtain ⟨d0, d1, d2, d3⟩ := box4 HR5.out.box
          have HLL : Hid ((W.feed v).last = 0) := feed_last W v 0 0 HX.out rfl
          clear hb5 hk5 HR4
          go_wp2_with fail
          refine (sev_r _ 0 0 (by decide) (by decide) (by decide)).mono ?_
          rintro e w' ⟨rfl, rfl⟩
          go_wp2_with fail
          refine (sev_r _ 3 2 (by decide) (by decide) (by decide)).mono ?_
          rintro e w' ⟨rfl, rfl⟩
          go_wp2_with fail
          go_roundw
          case rel => exact ⟨⟨_, _, HR5.out, by rw [HLL.out]⟩, k + 1, by omega, by go_num⟩
          case measure => simp [intOf]; omega
        · have HX := Lib.hid hx
          have hh := next_hard W v HR4.out.wi (by rw [hx, hlast]; decide)
          rw [HR4.out.wl, HR4.out.ws, hlast] at hh
          have t1 : l.hl + s ≤ v := by omega
          clear hh
          clear hx hlast
          refine (feed_r _ g W HR4.out.wi v HV.out HR4.out.wb 1 HX.out).mono ?_
          rintro e w5 ⟨rfl, hb5, hk5⟩
          have HR5 : Hid (HRel w g p l s (W.feed v) (Q.feed v) w5) := ⟨HR4.out.keep.chain1 (Nat.le_refl _) hk5 (by omega), HR4.out.box.keepS hk5 (one_no (by omega)), feed_inv HR4.out.wi v, HR4.out.wl, HR4.out.ws, hb5, HR4.out.qi, HR4.out.ql, HR4.out.qs, HR4.out.qb.keepS hk5 (one_no (by omega))⟩
          obtain ⟨d0, d1, d2, d3⟩ := box4 HR5.out.box
          have HLL : Hid ((W.feed v).last = 1) := feed_last W v 1 1 HX.out rfl
          clear hb5 hk5 HR4
          go_wp2_with fail
          refine (sev_r _ 1 1 (by decide) (by decide) (by decide)).mono ?_
          rintro e w' ⟨rfl, rfl⟩
          go_wp2_with fail
          refine (sev_r _ 3 2 (by decide) (by decide) (by decide)).mono ?_
          rintro e w' ⟨rfl, rfl⟩
          go_wp2_with fail
          go_roundw
          case rel => exact ⟨⟨_, _, HR5.out, by rw [HLL.out]⟩, k + 1, by omega, by go_num⟩
          case measure => simp [intOf]; omega
        · have HX := Lib.hid hx
          have hh := next_hard W v HR4.out.wi (by rw [hx, hlast]; decide)
          rw [HR4.out.wl, HR4.out.ws, hlast] at hh
          have t1 : l.hl + s ≤ v := by omega
          clear hh
          clear hx hlast
          refine (feed_r _ g W HR4.out.wi v HV.out HR4.out.wb 2 HX.out).mono ?_
          rintro e w5 ⟨rfl, hb5, hk5⟩
          have HR5 : Hid (HRel w g p l s (W.feed v) (Q.feed v) w5) := ⟨HR4.out.keep.chain1 (Nat.le_refl _) hk5 (by omega), HR4.out.box.keepS hk5 (one_no (by omega)), feed_inv HR4.out.wi v, HR4.out.wl, HR4.out.ws, hb5, HR4.out.qi, HR4.out.ql, HR4.out.qs, HR4.out.qb.keepS hk5 (one_no (by omega))⟩
          obtain ⟨d0, d1, d2, d3⟩ := box4 HR5.out.box
          have HLL : Hid ((W.feed v).last = 2) := feed_last W v 2 2 HX.out rfl
          clear hb5 hk5 HR4
          go_wp2_with fail
          refine (sev_r _ 2 1 (by decide) (by decide) (by decide)).mono ?_
          rintro e w' ⟨rfl, rfl⟩
          go_wp2_with fail
          refine (sev_r _ 3 2 (by decide) (by decide) (by decide)).mono ?_
          rintro e w' ⟨rfl, rfl⟩
          go_wp2_with fail
          go_roundw
          case rel => exact ⟨⟨_, _, HR5.out, by rw [HLL.out]⟩, k + 1, by omega, by go_num⟩
          case measure => simp [intOf]; omega
        · have HX := Lib.hid hx
          clear hx hlast
          refine (feed_r _ g W HR4.out.wi v HV.out HR4.out.wb 3 HX.out).mono ?_
          rintro e w5 ⟨rfl, hb5, hk5⟩
          have HR5 : Hid (HRel w g p l s (W.feed v) (Q.feed v) w5) := ⟨HR4.out.keep.chain1 (Nat.le_refl _) hk5 (by omega), HR4.out.box.keepS hk5 (one_no (by omega)), feed_inv HR4.out.wi v, HR4.out.wl, HR4.out.ws, hb5, HR4.out.qi, HR4.out.ql, HR4.out.qs, HR4.out.qb.keepS hk5 (one_no (by omega))⟩
          obtain ⟨d0, d1, d2, d3⟩ := box4 HR5.out.box
          have HLL : Hid ((W.feed v).last = 3) := feed_last W v 3 3 HX.out rfl
          clear hb5 hk5 HR4
          go_wp2_with fail
          refine (sev_r _ 3 2 (by decide) (by decide) (by decide)).mono ?_
          rintro e w' ⟨rfl, rfl⟩
          go_wp2_with fail
          refine (sev_r _ 3 2 (by decide) (by decide) (by decide)).mono ?_
          rintro e w' ⟨rfl, rfl⟩
          go_wp2_with fail
          go_roundw
          case rel => exact ⟨⟨_, _, HR5.out, by rw [HLL.out]⟩, k + 1, by omega, by go_num⟩
          case measure => simp [intOf]; omega
        · have HX := Lib.hid hx
          clear hx hlast
          refine (feed_r _ g W HR4.out.wi v HV.out HR4.out.wb 4 HX.out).mono ?_
          rintro e w5 ⟨rfl, hb5, hk5⟩
          have HR5 : Hid (HRel w g p l s (W.feed v) (Q.feed v) w5) := ⟨HR4.out.keep.chain1 (Nat.le_refl _) hk5 (by omega), HR4.out.box.keepS hk5 (one_no (by omega)), feed_inv HR4.out.wi v, HR4.out.wl, HR4.out.ws, hb5, HR4.out.qi, HR4.out.ql, HR4.out.qs, HR4.out.qb.keepS hk5 (one_no (by omega))⟩
          obtain ⟨d0, d1, d2, d3⟩ := box4 HR5.out.box
          have HLL : Hid ((W.feed v).last = 4) := feed_last W v 4 4 HX.out rfl
          clear hb5 hk5 HR4
          go_wp2_with fail
          refine (sev_r _ 4 2 (by decide) (by decide) (by decide)).mono ?_
          rintro e w' ⟨rfl, rfl⟩
          go_wp2_with fail
          refine (sev_r _ 3 2 (by decide) (by decide) (by decide)).mono ?_
          rintro e w' ⟨rfl, rfl⟩
          go_wp2_with fail
          go_roundw
          case rel => exact ⟨⟨_, _, HR5.out, by rw [HLL.out]⟩, k + 1, by omega, by go_num⟩
          case measure => simp [intOf]; omega
      · have hu : u11 = .int .i64 4 := by rw [HLA.out, hlast]
        subst hu
        rcases next_cases W v with hx | hx | hx | hx | hx
        · have HX := Lib.hid hx
          have hh := next_hard W v HR4.out.wi (by rw [hx, hlast]; decide)
          rw [HR4.out.wl, HR4.out.ws, hlast] at hh
          have t1 : v ≤ l.hh - s := by omega
          clear hh
          have hh := next_soft W v HR4.out.wi hx
          rw [HR4.out.wl, HR4.out.ws, hlast] at hh
          have t2 : v ≤ l.sh - s := by omega
          clear hh
          clear hx hlast
          refine (feed_r _ g W HR4.out.wi v HV.out HR4.out.wb 0 HX.out).mono ?_
          rintro e w5 ⟨rfl, hb5, hk5⟩
          have HR5 : Hid (HRel w g p l s (W.feed v) (Q.feed v) w5) := ⟨HR4.out.keep.chain1 (Nat.le_refl _) hk5 (by omega), HR4.out.box.keepS hk5 (one_no (by omega)), feed_inv HR4.out.wi v, HR4.out.wl, HR4.out.ws, hb5, HR4.out.qi, HR4.out.ql, HR4.out.qs, HR4.out.qb.keepS hk5 (one_no (by omega))⟩
          obtain ⟨d0, d1, d2, d3⟩ := box4 HR5.out.box
          have HLL : Hid ((W.feed v).last = 0) := feed_last W v 0 0 HX.out rfl
          clear hb5 hk5 HR4
          go_wp2_with fail
          refine (sev_r _ 0 0 (by decide) (by decide) (by decide)).mono ?_
          rintro e w' ⟨rfl, rfl⟩
          go_wp2_with fail
          refine (sev_r _ 4 2 (by decide) (by decide) (by decide)).mono ?_
          rintro e w' ⟨rfl, rfl⟩
          go_wp2_with fail
          go_roundw
          case rel => exact ⟨⟨_, _, HR5.out, by rw [HLL.out]⟩, k + 1, by omega, by go_num⟩
          case measure => simp [intOf]; omega
        · have HX := Lib.hid hx
          have hh := next_hard W v HR4.out.wi (by rw [hx, hlast]; decide)
          rw [HR4.out.wl, HR4.out.ws, hlast] at hh
          have t1 : v ≤ l.hh - s := by omega
          clear hh
          clear hx hlast
          refine (feed_r _ g W HR4.out.wi v HV.out HR4.out.wb 1 HX.out).mono ?_
          rintro e w5 ⟨rfl, hb5, hk5⟩
          have HR5 : Hid (HRel w g p l s (W.feed v) (Q.feed v) w5) := ⟨HR4.out.keep.chain1 (Nat.le_refl _) hk5 (by omega), HR4.out.box.keepS hk5 (one_no (by omega)), feed_inv HR4.out.wi v, HR4.out.wl, HR4.out.ws, hb5, HR4.out.qi, HR4.out.ql, HR4.out.qs, HR4.out.qb.keepS hk5 (one_no (by omega))⟩
          obtain ⟨d0, d1, d2, d3⟩ := box4 HR5.out.box
          have HLL : Hid ((W.feed v).last = 1) := feed_last W v 1 1 HX.out rfl
          clear hb5 hk5 HR4
          go_wp2_with fail
          refine (sev_r _ 1 1 (by decide) (by decide) (by decide)).mono ?_
          rintro e w' ⟨rfl, rfl⟩
          go_wp2_with fail
          refine (sev_r _ 4 2 (by decide) (by decide) (by decide)).mono ?_
          rintro e w' ⟨rfl, rfl⟩
          go_wp2_with fail
          go_roundw
          case rel => exact ⟨⟨_, _, HR5.out, by rw [HLL.out]⟩, k + 1, by omega, by go_num⟩
          case measure => simp [intOf]; omega
        · have HX := Lib.hid hx
          have hh := next_hard W v HR4.out.wi (by rw [hx, hlast]; decide)
          rw [HR4.out.wl, HR4.out.ws, hlast] at hh
          have t1 : v ≤ l.hh - s := by omega
          clear hh
          clear hx hlast
          refine (feed_r _ g W HR4.out.wi v HV.out HR4.out.wb 2 HX.out).mono ?_
          rintro e w5 ⟨rfl, hb5, hk5⟩
          have HR5 : Hid (HRel w g p l s (W.feed v) (Q.feed v) w5) := ⟨HR4.out.keep.chain1 (Nat.le_refl _) hk5 (by omega), HR4.out.box.keepS hk5 (one_no (by omega)), feed_inv HR4.out.wi v, HR4.out.wl, HR4.out.ws, hb5, HR4.out.qi, HR4.out.ql, HR4.out.qs, HR4.out.qb.keepS hk5 (one_no (by omega))⟩
          obtain ⟨d0, d1, d2, d3⟩ := box4 HR5.out.box
          have HLL : Hid ((W.feed v).last = 2) := feed_last W v 2 2 HX.out rfl
          clear hb5 hk5 HR4
          go_wp2_with fail
          refine (sev_r _ 2 1 (by decide) (by decide) (by decide)).mono ?_
          rintro e w' ⟨rfl, rfl⟩
          go_wp2_with fail
          refine (sev_r _ 4 2 (by decide) (by decide) (by decide)).mono ?_
          rintro e w' ⟨rfl, rfl⟩
          go_wp2_with fail
          go_roundw
          case rel => exact ⟨⟨_, _, HR5.out, by rw [HLL.out]⟩, k + 1, by omega, by go_num⟩
          case measure => simp [intOf]; omega
        · have HX := Lib.hid hx
          clear hx hlast
          refine (feed_r _ g W HR4.out.wi v HV.out HR4.out.wb 3 HX.out).mono ?_
          rintro e w5 ⟨rfl, hb5, hk5⟩
          have HR5 : Hid (HRel w g p l s (W.feed v) (Q.feed v) w5) := ⟨HR4.out.keep.chain1 (Nat.le_refl _) hk5 (by omega), HR4.out.box.keepS hk5 (one_no (by omega)), feed_inv HR4.out.wi v, HR4.out.wl, HR4.out.ws, hb5, HR4.out.qi, HR4.out.ql, HR4.out.qs, HR4.out.qb.keepS hk5 (one_no (by omega))⟩
          obtain ⟨d0, d1, d2, d3⟩ := box4 HR5.out.box
          have HLL : Hid ((W.feed v).last = 3) := feed_last W v 3 3 HX.out rfl
          clear hb5 hk5 HR4
          go_wp2_with fail
          refine (sev_r _ 3 2 (by decide) (by decide) (by decide)).mono ?_
          rintro e w' ⟨rfl, rfl⟩
          go_wp2_with fail
          refine (sev_r _ 4 2 (by decide) (by decide) (by decide)).mono ?_
          rintro e w' ⟨rfl, rfl⟩
          go_wp2_with fail
          go_roundw
          case rel => exact ⟨⟨_, _, HR5.out, by rw [HLL.out]⟩, k + 1, by omega, by go_num⟩
          case measure => simp [intOf]; omega
        · have HX := Lib.hid hx
          clear hx hlast
          refine (feed_r _ g W HR4.out.wi v HV.out HR4.out.wb 4 HX.out).mono ?_
          rintro e w5 ⟨rfl, hb5, hk5⟩
          have HR5 : Hid (HRel w g p l s (W.feed v) (Q.feed v) w5) := ⟨HR4.out.keep.chain1 (Nat.le_refl _) hk5 (by omega), HR4.out.box.keepS hk5 (one_no (by omega)), feed_inv HR4.out.wi v, HR4.out.wl, HR4.out.ws, hb5, HR4.out.qi, HR4.out.ql, HR4.out.qs, HR4.out.qb.keepS hk5 (one_no (by omega))⟩
          obtain ⟨d0, d1, d2, d3⟩ := box4 HR5.out.box
          have HLL : Hid ((W.feed v).last = 4) := feed_last W v 4 4 HX.out rfl
          clear hb5 hk5 HR4
          go_wp2_with fail
          refine (sev_r _ 4 2 (by decide) (by decide) (by decide)).mono ?_
          rintro e w' ⟨rfl, rfl⟩
          go_wp2_with fail
          refine (sev_r _ 4 2 (by decide) (by decide) (by decide)).mono ?_
          rintro e w' ⟨rfl, rfl⟩
          go_wp2_with fail
          go_roundw
          case rel => exact ⟨⟨_, _, HR5.out, by rw [HLL.out]⟩, k + 1, by omega, by go_num⟩
          case measure => simp [intOf]; omega
    · clear hA
      go_wp2_with fail
      refine (lives_any _).mono ?_
      rintro e wl ⟨rfl, hk⟩
      have KL : Hid (Keep w.heap.size [] w wl) := HR2.out.keep.chain0 (Nat.le_refl _) hk
      clear hk
      go_wp2_with fail
      go_ret
      exact ⟨rfl, KL.out⟩

theorem hys_any (w : World) (l : Li) (hf : l.Fit) (s : Int) (hs : Fit s) (A : Option Addr) (n c : Nat) (hA : IntsAt w w.heap.size A n) :
    Calls Try.prog 5 #[lagg l, .int .i64 s, .slice A n c] w (LawPost w) := by
  by_cases h : 200 < n ∨ newOk l s = false
  · exact hys_out w l hf s hs A n c hA.1 h
  · have hok : newOk l s = true := by
      cases e : newOk l s
      · exact absurd (.inr e) h
      · rfl
    exact hys_in w l hf s hs A n c hA (by omega) hok
end Go.Proofs.Ytmefdiidgnpklaa
