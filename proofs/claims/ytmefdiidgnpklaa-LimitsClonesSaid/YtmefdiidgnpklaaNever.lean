/- The laws LimitsPlays and LimitsNever: their walks. -/
import Derived.Test.YtmefdiidgnpklaaChecks
namespace Go.Proofs.Ytmefdiidgnpklaa
set_option linter.unusedVariables false
set_option linter.unusedSimpArgs false
open Go.RowKit
/-- a slice of ints -/
def IntsAt (w : World) (B : Nat) (A : Option Addr) (n : Nat) : Prop :=
  n ≤ 9223372036854775807 ∧ (0 < n → ∃ bl off, A = some ⟨bl, off, none⟩ ∧ bl < B ∧ ∀ i, i < n → ∃ x : Int, Fit x ∧ w.cell? ⟨bl, off + i, none⟩ = some (.int .i64 x))
structure P2 (wr : World) (g x : Nat) (W : Wt) : Prop where
  inv : W.Inv
  hb : Blk wr g 42 (wcells W)
  hx : Blk wr x 35 (rcells W)
theorem P2.keep {w w' : World} {g x : Nat} {W : Wt} {S : List Nat} (h : P2 w g x W) (k : Keep w.heap.size S w w') (h1 : g ∉ S) (h2 : x ∉ S) : P2 w' g x W := ⟨h.inv, h.hb.keepS k h1, h.hx.keepS k h2⟩
theorem P2.ne {w : World} {g x : Nat} {W : Wt} (h : P2 w g x W) : g ≠ x := h.hb.ne_ h.hx (by decide)
theorem one_no {a b : Nat} (h1 : a ≠ b) : a ∉ [b] := by simp; omega

set_option maxHeartbeats 2000000 in
theorem never_any (w : World) (l : Li) (hf : l.Fit) (s : Int) (hs : Fit s) (A : Option Addr) (n c : Nat) (hA : IntsAt w w.heap.size A n) :
    Calls Try.prog 6 #[lagg l, .int .i64 s, .slice A n c] w (LawPost w) := by
  have hn := hA.1
  by_cases hlt : 200 < n
  · have hl : (200 : Int) < (n : Int) := by omega
    clear hA
    go_enter Try.func6, Try.ntmps6
    go_wp2_with fail
    refine (lives_any _).mono ?_
    rintro e w2 ⟨rfl, hk⟩
    have K2 : Hid (Keep w.heap.size [] w w2) := (keep_a1 w _).chain0 (Nat.le_refl _) hk
    clear hk
    go_wp2_with fail
    go_ret
    exact ⟨rfl, K2.out⟩
  have hl : (n : Int) ≤ 200 := by omega
  cases hok : newOk l s with
  | false =>
    have HOK := Lib.hid hok
    clear hok hA
    go_enter Try.func6, Try.ntmps6
    go_wp2_with fail
    refine (new_no _ l s hf hs HOK.out).mono ?_
    rintro e w1 ⟨rfl, hk⟩
    have K1 : Hid (Keep w.heap.size [] w w1) := (keep_a1 w _).chain0 (Nat.le_refl _) hk
    clear hk
    go_wp2_with fail
    refine (lives_any _).mono ?_
    rintro e w2 ⟨rfl, hk⟩
    have K2 : Hid (Keep w.heap.size [] w w2) := K1.out.chain0 (Nat.le_refl _) hk
    clear hk
    go_wp2_with fail
    go_ret
    exact ⟨rfl, K2.out⟩
  | true =>
    have HOK := Lib.hid hok
    clear hok
    go_enter Try.func6, Try.ntmps6
    go_wp2_with fail
    refine (new_yes _ l s hf hs HOK.out).mono ?_
    rintro e w1 ⟨g, rfl, hg, hb, hk⟩
    have HL : Hid (Blk w1 w.heap.size 23 (lcells l)) := (Blk.new w 23 (lcells l)).keepS hk (by simp)
    have HR : Hid (∃ W : Wt, W.Inv ∧ W.l = l ∧ Blk w1 g 42 (wcells W)) := ⟨_, newW_inv l s hf hs HOK.out, rfl, hb⟩
    have HK1 : Hid (Keep w.heap.size [] w w1) := (keep_a1 w _).chain0 (Nat.le_refl _) hk
    have hg' : w.heap.size < g := by simp at hg; omega
    clear hb hk hg HOK
    go_wp2_with fail
    go_loopw [9] (fun i wr => (Keep w.heap.size [] w wr ∧ Blk wr w.heap.size 23 (lcells l) ∧ ∃ W : Wt, W.Inv ∧ W.l = l ∧ Blk wr g 42 (wcells W)) ∧ ∃ k : Nat, k ≤ n ∧ i = .int .i64 k) (fun i _ => n - (intOf i).toNat)
    case atStart => exact ⟨⟨HK1.out, HL.out, HR.out⟩, 0, Nat.zero_le _, rfl⟩
    case round =>
      obtain ⟨⟨hk, hbl', W, hi, hwl, hb⟩, k, hkn, rfl⟩ := hrel
      have HB := Lib.hid hb
      have HL2 := Lib.hid hbl'
      have HK := Lib.hid hk
      have HI := Lib.hid hi
      have HWL := Lib.hid hwl
      clear hb hbl' hk hi hwl HR HL HK1
      by_cases hlt : k < n
      · obtain ⟨bl, off, rfl, hbl, hcs⟩ := hA.2 (by omega)
        obtain ⟨v, hv, c0'⟩ := hcs k hlt
        have c0 : wr.cell? ⟨bl, off + k, none⟩ = some (.int .i64 v) := (HK.out.cell (p := ⟨bl, off + k, none⟩) hbl (by simp)).trans c0'
        have HV := Lib.hid hv
        clear c0' hcs hA hv
        have hse := next_sev W v HI.out
        rw [HWL.out] at hse
        have HSE : Hid (decide (sev (W.next v) < sev (l.check v)) = false) := by unfold Hid; simp; omega
        obtain ⟨sx, hsx⟩ : ∃ sx, sev (W.next v) = sx := ⟨_, rfl⟩
        obtain ⟨sy, hsy⟩ : ∃ sy, sev (l.check v) = sy := ⟨_, rfl⟩
        rw [hsx, hsy] at hse
        have HSX := Lib.hid hsx
        have HSY := Lib.hid hsy
        have hnx : 0 ≤ W.next v ∧ W.next v ≤ 4 := by rcases next_cases W v with h | h | h | h | h <;> omega
        have hcx : 0 ≤ l.check v ∧ l.check v ≤ 4 := by rcases check_cases l v with h | h | h | h | h <;> omega
        have HNX := Lib.hid hnx
        have HCX := Lib.hid hcx
        have d0 := box4 HL2.out
        clear hsx hsy hnx hcx HSE
        go_wp2_with fail
        go_region_held3 (fun w' => w'.cell? ⟨bl, off + k, none⟩ = some (.int .i64 v) ∧ w'.cell? ⟨w.heap.size, 0, none⟩ = some (.int .i64 l.hl) ∧ w'.cell? ⟨w.heap.size, 1, none⟩ = some (.int .i64 l.sl) ∧ w'.cell? ⟨w.heap.size, 2, none⟩ = some (.int .i64 l.sh) ∧ w'.cell? ⟨w.heap.size, 3, none⟩ = some (.int .i64 l.hh))
          (first | exact ⟨c0, d0⟩ | exact ⟨c1, d1⟩ | exact ⟨c2, d2⟩)
          (first
            | (go_at_call 15
               refine (feed_any _ g W HI.out v HV.out (by exact HB.out)).mono ?_
               rintro e w2 ⟨rfl, hb1, hk1⟩
               have k1 := hk1.undrew
               have c1 : w2.cell? ⟨bl, off + k, none⟩ = some (.int .i64 v) := (k1.cell (p := ⟨bl, off + k, none⟩) (Nat.lt_of_lt_of_le hbl HK.out.size) (one_no (by simp only; omega))).trans c0
               have HL3 := Lib.hid (HL2.out.keepS k1 (one_no (by omega)))
               have d1 := box4 HL3.out
               have HB1 := Lib.hid hb1
               have HK2 : Hid (Keep w.heap.size [] w w2) := HK.out.chain1 (Nat.le_refl _) k1 (by omega)
               clear hb1 hk1 k1)
            | (go_at_call_of 18 (Value.int IntKind.i64 (W.next v))
               refine (sev_any _ (W.next v) HNX.out.1 HNX.out.2).mono ?_
               rintro e w' ⟨rfl, rfl⟩
               rw [HSX.out])
            | (go_at_call 10
               refine (check_k _ l v).mono ?_
               rintro e w3 ⟨rfl, hk3⟩
               have c2 : w3.cell? ⟨bl, off + k, none⟩ = some (.int .i64 v) := (hk3.cell (p := ⟨bl, off + k, none⟩) (Nat.lt_of_lt_of_le hbl HK2.out.size) (by simp)).trans c1
               have HL4 := Lib.hid (HL3.out.keepS hk3 (by simp))
               have d2 := box4 HL4.out
               have HB2 := Lib.hid (HB1.out.keepS hk3 (by simp))
               have HK3 : Hid (Keep w.heap.size [] w w3) := HK2.out.chain0 (Nat.le_refl _) hk3
               clear hk3)
            | (go_at_call_of 18 (Value.int IntKind.i64 (l.check v))
               refine (sev_any _ (l.check v) HCX.out.1 HCX.out.2).mono ?_
               rintro e w' ⟨rfl, rfl⟩
               rw [HSY.out]))
        go_wp2_with fail
        go_roundw
        case rel => exact ⟨⟨HK3.out, HL4.out, _, feed_inv HI.out v, HWL.out, HB2.out⟩, k + 1, by omega, by go_num⟩
        case measure => simp [intOf]; omega
      · clear hA
        go_wp2_with fail
        refine (lives_any _).mono ?_
        rintro e w2 ⟨rfl, hk⟩
        have K2 : Hid (Keep w.heap.size [] w w2) := HK.out.chain0 (Nat.le_refl _) hk
        clear hk
        go_wp2_with fail
        go_ret
        exact ⟨rfl, K2.out⟩
end Go.Proofs.Ytmefdiidgnpklaa
