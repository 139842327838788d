/- The law LimitsPlays: its walk. -/
import Derived.Test.YtmefdiidgnpklaaNever
namespace Go.Proofs.Ytmefdiidgnpklaa
set_option linter.unusedVariables false
set_option linter.unusedSimpArgs false
open Go.RowKit
theorem newW_cnt (l : Li) (s : Int) (n : Nat) : (newW l s).cnt n = 0 := by
  unfold Wt.cnt newW
  split <;> rfl
theorem rcells_new (l : Li) (s : Int) : rcells (newW l s) = #[.int .i64 l.hl, .int .i64 l.sl, .int .i64 l.sh, .int .i64 l.hh, .int .i64 s, .int .i64 0, .int .i64 0, .int .i64 0, .int .i64 0, .int .i64 0, .int .i64 0] := rfl
abbrev zr : Array Value := #[.int .i64 0, .int .i64 0, .int .i64 0, .int .i64 0, .int .i64 0, .int .i64 0, .int .i64 0, .int .i64 0, .int .i64 0, .int .i64 0, .int .i64 0]
theorem zr_cell {w : World} {g : Nat} (hb : Blk w g 35 zr) {n : Nat} (hn : n < 5) : w.cell? ⟨g, 6 + n, none⟩ = some (.int .i64 0) := by
  rw [hb.cell]
  rcases lt5 hn with rfl | rfl | rfl | rfl | rfl <;> rfl

set_option maxHeartbeats 4000000 in
theorem plays_any (w : World) (l : Li) (hf : l.Fit) (s : Int) (hs : Fit s) (A : Option Addr) (n c : Nat) (hA : IntsAt w w.heap.size A n) :
    Calls Try.prog 4 #[lagg l, .int .i64 s, .slice A n c] w (LawPost w) := by
  have hn := hA.1
  by_cases hlt : 200 < n
  · have hl : (200 : Int) < (n : Int) := by omega
    clear hA
    go_enter Try.func4, Try.ntmps4
    go_wp2_with fail
    refine (lives_any _).mono ?_
    rintro e wl ⟨rfl, hk⟩
    have KL : Hid (Keep w.heap.size [] w wl) := (keep_a1 w _).chain0 (Nat.le_refl _) hk
    clear hk
    go_wp2_with fail
    go_ret
    exact ⟨rfl, KL.out⟩
  have hl : (n : Int) ≤ 200 := by omega
  cases hok : newOk l s with
  | false =>
    have HOK := Lib.hid hok
    clear hok hA
    go_enter Try.func4, Try.ntmps4
    go_wp2_with fail
    refine (new_no _ l s hf hs HOK.out).mono ?_
    rintro e w1 ⟨rfl, hk⟩
    have K1 : Hid (Keep w.heap.size [] w w1) := (keep_a1 w _).chain0 (Nat.le_refl _) hk
    have HL := Lib.hid ((Blk.new w 23 (lcells l)).keepS hk (by simp))
    have d0 := box4 HL.out
    clear hk
    go_wp2_with fail
    refine (rnew_no _ l s hf hs HOK.out).mono ?_
    rintro e w2 ⟨rfl, hk⟩
    have K2 : Hid (Keep w.heap.size [] w w2) := K1.out.chain0 (Nat.le_refl _) hk
    clear hk d0 HL
    go_wp2_with fail
    obtain ⟨W0, hW⟩ : ∃ W0, W0 = w2.alloc (.cells zr 35) := ⟨_, rfl⟩
    have HX : Hid (Blk W0 w2.heap.size 35 zr) := by rw [hW]; exact Blk.new _ _ _
    have HK : Hid (Keep w.heap.size [] w W0) := by rw [hW]; exact K2.out.alloc K2.out.size _
    have HQ : Hid (w2.alloc (.cells #[.int .i64 0, .int .i64 0, .int .i64 0, .int .i64 0, .int .i64 0, .int .i64 0, .int .i64 0, .int .i64 0, .int .i64 0, .int .i64 0, .int .i64 0] 35) = W0) := hW.symm
    rw [HQ.out]
    clear hW HQ K2 K1
    generalize w2.heap.size = x at *
    go_loopw [11] (fun i wr => wr = W0 ∧ i = .int .i64 0) (fun _ _ => 0)
    case atStart => exact ⟨rfl, rfl⟩
    case round =>
      obtain ⟨rfl, rfl⟩ := hrel
      by_cases h0 : n = 0
      · have hz : ¬ ((0 : Int) < (n : Int)) := by omega
        subst h0
        go_wp2_with fail
        go_loopw [12] (fun i wq => (Keep w.heap.size [] w wq ∧ Blk wq x 35 zr) ∧ ∃ j : Nat, j ≤ 5 ∧ i = .int .i64 j) (fun i _ => 5 - (intOf i).toNat)
        case atStart => exact ⟨⟨HK.out, HX.out⟩, 0, Nat.zero_le _, rfl⟩
        case round =>
          obtain ⟨⟨hk, hx⟩, j, hj, rfl⟩ := hrel
          have HX3 := Lib.hid hx
          have HK3 := Lib.hid hk
          clear hk hx
          by_cases hj5 : j < 5
          · have e0 := zr_cell HX3.out hj5
            go_wp2_with fail
            go_region_held3 (fun w' => w'.cell? ⟨x, 6 + j, none⟩ = some (.int .i64 0))
              (first | exact e0)
              (first
                | (go_at_call 17
                   refine (count_nil _ (j : Int)).mono ?_
                   rintro e w' ⟨rfl, rfl⟩))
            go_wp2_with fail
            go_roundw
            case rel => exact ⟨⟨HK3.out.drew, HX3.out⟩, j + 1, by omega, by go_num⟩
            case measure => simp [intOf]; omega
          · go_wp2_with fail
            refine (count_nil _ (-1)).mono ?_
            rintro e w' ⟨rfl, rfl⟩
            go_wp2_with fail
            refine (count_nil _ 5).mono ?_
            rintro e w' ⟨rfl, rfl⟩
            go_wp2_with fail
            refine (lives_any _).mono ?_
            rintro e wl ⟨rfl, hk⟩
            have KL : Hid (Keep w.heap.size [] w wl) := HK3.out.chain0 (Nat.le_refl _) hk
            clear hk
            go_wp2_with fail
            go_ret
            exact ⟨rfl, KL.out⟩
      · have hz : (0 : Int) < (n : Int) := by omega
        clear h0
        go_wp2_with fail
        go_loopw [12] (fun i wq => (Keep w.heap.size [] w wq ∧ Blk wq x 35 zr) ∧ ∃ j : Nat, j ≤ 5 ∧ i = .int .i64 j) (fun i _ => 5 - (intOf i).toNat)
        case atStart => exact ⟨⟨HK.out, HX.out⟩, 0, Nat.zero_le _, rfl⟩
        case round =>
          obtain ⟨⟨hk, hx⟩, j, hj, rfl⟩ := hrel
          have HX3 := Lib.hid hx
          have HK3 := Lib.hid hk
          clear hk hx
          by_cases hj5 : j < 5
          · have e0 := zr_cell HX3.out hj5
            go_wp2_with fail
            go_region_held3 (fun w' => w'.cell? ⟨x, 6 + j, none⟩ = some (.int .i64 0))
              (first | exact e0)
              (first
                | (go_at_call 17
                   refine (count_nil _ (j : Int)).mono ?_
                   rintro e w' ⟨rfl, rfl⟩))
            go_wp2_with fail
            go_roundw
            case rel => exact ⟨⟨HK3.out.drew, HX3.out⟩, j + 1, by omega, by go_num⟩
            case measure => simp [intOf]; omega
          · go_wp2_with fail
            refine (count_nil _ (-1)).mono ?_
            rintro e w' ⟨rfl, rfl⟩
            go_wp2_with fail
            refine (count_nil _ 5).mono ?_
            rintro e w' ⟨rfl, rfl⟩
            go_wp2_with fail
            refine (lives_any _).mono ?_
            rintro e wl ⟨rfl, hk⟩
            have KL : Hid (Keep w.heap.size [] w wl) := HK3.out.chain0 (Nat.le_refl _) hk
            clear hk
            go_wp2_with fail
            go_ret
            exact ⟨rfl, KL.out⟩
  | true =>
    have HOK := Lib.hid hok
    clear hok
    go_enter Try.func4, Try.ntmps4
    go_wp2_with fail
    refine (new_yes _ l s hf hs HOK.out).mono ?_
    rintro e w1 ⟨g, rfl, hg, hb, hk⟩
    have K1 : Hid (Keep w.heap.size [] w w1) := (keep_a1 w _).chain0 (Nat.le_refl _) hk
    have HL := Lib.hid ((Blk.new w 23 (lcells l)).keepS hk (by simp))
    have HB1 := Lib.hid hb
    have d0 := box4 HL.out
    have hg' : w.heap.size ≤ g := by simp at hg; omega
    clear hk hb hg
    go_wp2_with fail
    refine (rnew_yes _ l s hf hs HOK.out).mono ?_
    rintro e w2 ⟨rfl, hk⟩
    have K2 : Hid (Keep w.heap.size [] w w2) := K1.out.chain0 (Nat.le_refl _) hk
    have HB2 := Lib.hid (HB1.out.keepS hk (by simp))
    clear hk d0 HL HB1 K1
    go_wp2_with fail
    obtain ⟨W0, hW⟩ : ∃ W0, W0 = w2.alloc (.cells (rcells (newW l s)) 35) := ⟨_, rfl⟩
    have HP : Hid (P2 W0 g w2.heap.size (newW l s)) := by rw [hW]; exact ⟨newW_inv l s hf hs HOK.out, HB2.out.alloc _, Blk.new _ _ _⟩
    have HK : Hid (Keep w.heap.size [] w W0) := by rw [hW]; exact K2.out.alloc K2.out.size _
    have hx' : w.heap.size ≤ w2.heap.size := K2.out.size
    have HQ : Hid (w2.alloc (.cells #[.int .i64 l.hl, .int .i64 l.sl, .int .i64 l.sh, .int .i64 l.hh, .int .i64 s, .int .i64 0, .int .i64 0, .int .i64 0, .int .i64 0, .int .i64 0, .int .i64 0] 35) = W0) := hW.symm
    rw [HQ.out]
    clear hW HQ K2 HB2
    generalize w2.heap.size = x at *
    go_loopw [11] (fun i wr => (Keep w.heap.size [] w wr ∧ ∃ W, P2 wr g x W) ∧ ∃ k : Nat, k ≤ n ∧ i = .int .i64 k) (fun i _ => n - (intOf i).toNat)
    case atStart => exact ⟨⟨HK.out, _, HP.out⟩, 0, Nat.zero_le _, rfl⟩
    case round =>
      obtain ⟨⟨hk, W, hp⟩, k, hkn, rfl⟩ := hrel
      have HNE := Lib.hid hp.ne
      have HP2 := Lib.hid hp
      have HK2 := Lib.hid hk
      clear hk hp HP HK
      by_cases hlt : k < n
      · obtain ⟨bl, off, rfl, hbl, hcs⟩ := hA.2 (by omega)
        obtain ⟨v, hv, c0'⟩ := hcs k hlt
        have c0 : wr.cell? ⟨bl, off + k, none⟩ = some (.int .i64 v) := (HK2.out.cell (p := ⟨bl, off + k, none⟩) hbl (by simp)).trans c0'
        have HV := Lib.hid hv
        clear c0' hcs hA hv
        go_wp2_with fail
        go_region_held3 (fun w' => w'.cell? ⟨bl, off + k, none⟩ = some (.int .i64 v))
          (first | exact c0 | exact c1 | exact c2)
          (first
            | (go_at_call 15
               refine (feed_any _ g W HP2.out.inv v HV.out (by exact HP2.out.hb)).mono ?_
               rintro e w3 ⟨rfl, hb1, hk1⟩
               have k1 := hk1.undrew
               have c1 : w3.cell? ⟨bl, off + k, none⟩ = some (.int .i64 v) := (k1.cell (p := ⟨bl, off + k, none⟩) (Nat.lt_of_lt_of_le hbl HK2.out.size) (one_no (by simp only; omega))).trans c0
               have HB3 := Lib.hid hb1
               have HX3 := Lib.hid (HP2.out.hx.keepS k1 (one_no (fun e => HNE.out e.symm)))
               have HK3 : Hid (Keep w.heap.size [] w w3) := HK2.out.chain1 (Nat.le_refl _) k1 hg'
               clear hb1 hk1 k1)
            | (go_at_call 16
               refine (rfeed_any _ x W HP2.out.inv v (by exact HX3.out)).mono ?_
               rintro e w4 ⟨rfl, hb2, hk2⟩
               have c2 : w4.cell? ⟨bl, off + k, none⟩ = some (.int .i64 v) := (hk2.cell (p := ⟨bl, off + k, none⟩) (Nat.lt_of_lt_of_le hbl HK3.out.size) (one_no (by simp only; omega))).trans c1
               have HP4 : Hid (P2 w4 g x (W.feed v)) := ⟨feed_inv HP2.out.inv v, HB3.out.keepS hk2 (one_no HNE.out), hb2⟩
               have HK4 : Hid (Keep w.heap.size [] w w4) := HK3.out.chain1 (Nat.le_refl _) hk2 hx'
               clear hb2 hk2))
        go_wp2_with fail
        go_roundw
        case rel => exact ⟨⟨HK4.out, _, HP4.out⟩, k + 1, by omega, by go_num⟩
        case measure => simp [intOf]; omega
      · clear hA
        go_wp2_with fail
        obtain ⟨wo, hwo⟩ : ∃ wo : World, wo = wr := ⟨_, rfl⟩
        go_loopw [12] (fun i wq => (Keep w.heap.size [] w wq ∧ P2 wq g x W) ∧ ∃ j : Nat, j ≤ 5 ∧ i = .int .i64 j) (fun i _ => 5 - (intOf i).toNat)
        case atStart => exact ⟨⟨HK2.out, HP2.out⟩, 0, Nat.zero_le _, rfl⟩
        case round =>
          clear hwo
          obtain ⟨⟨hk, hp⟩, j, hj, rfl⟩ := hrel
          have HP3 := Lib.hid hp
          have HK3 := Lib.hid hk
          clear hk hp
          by_cases hj5 : j < 5
          · have e0 := rcell_cnt HP3.out.hx hj5
            go_wp2_with fail
            go_region_held3 (fun w' => w'.cell? ⟨x, 6 + j, none⟩ = some (.int .i64 (W.cnt j)))
              (first | exact e0)
              (first
                | (go_at_call 17
                   refine (count_in _ g W j hj5 (by exact HP3.out.hb)).mono ?_
                   rintro e w' ⟨rfl, rfl⟩))
            go_wp2_with fail
            go_roundw
            case rel => exact ⟨⟨HK3.out.drew, HP3.out.inv, HP3.out.hb, HP3.out.hx⟩, j + 1, by omega, by go_num⟩
            case measure => simp [intOf]; omega
          · go_wp2_with fail
            refine (count_out _ g W (-1) (by omega) HP3.out.hb).mono ?_
            rintro e w' ⟨rfl, rfl⟩
            go_wp2_with fail
            refine (count_out _ g W 5 (by omega) HP3.out.hb).mono ?_
            rintro e w' ⟨rfl, rfl⟩
            go_wp2_with fail
            refine (lives_any _).mono ?_
            rintro e wl ⟨rfl, hk⟩
            have KL : Hid (Keep w.heap.size [] w wl) := HK3.out.chain0 (Nat.le_refl _) hk
            clear hk
            go_wp2_with fail
            go_ret
            exact ⟨rfl, KL.out⟩
end Go.Proofs.Ytmefdiidgnpklaa
