/- The law BucketPlays: the walk. -/
import Derived.Test.YtppmbigmpilggaaLives
import Derived.LoopTactic
namespace Go.Proofs.Ytppmbigmpilggaa
set_option linter.unusedVariables false
set_option linter.unusedSimpArgs false
open Go.RowKit

/-- a slice of steps reads as the list L -/
def StepsAt (w : World) (B : Nat) (A : Option Addr) (n : Nat) : Prop :=
  n ≤ 9223372036854775807 ∧ (0 < n → ∃ bl off, A = some ⟨bl, off, none⟩ ∧ bl < B ∧ ∀ i, i < n → ∃ k m t : Int, 0 ≤ k ∧ k ≤ 255 ∧
    w.cell? ⟨bl, off + i * 3, none⟩ = some (.int .u8 k) ∧ w.cell? ⟨bl, off + i * 3 + 1, none⟩ = some (.int .i64 m) ∧ w.cell? ⟨bl, off + i * 3 + 2, none⟩ = some (.int .i64 t))

def LawPost (w : World) (e : Ending) (w' : World) : Prop := e = .returned (.bool true) ∧ Keep w.heap.size [] w w'

def PlaysRel (w : World) (g x : Nat) (wr : World) : Prop := ∃ b : Bu, b.Inv ∧ Blk wr g 47 (bcells b) ∧ Blk wr x 26 (rcells b) ∧ Keep w.heap.size [] w wr

set_option maxHeartbeats 1000000 in
theorem plays_any (w : World) (r s : Int) (A : Option Addr) (n c : Nat) (hA : StepsAt w w.heap.size A n) :
    Calls Try.prog 3 #[.int .i64 r, .int .i64 s, .slice A n c] w (LawPost w) := by
  have hn := hA.1
  by_cases hlt : 200 < n
  · have hl : (200 : Int) < (n : Int) := by omega
    go_enter Try.func3, Try.ntmps3
    go_wp2_with fail
    refine (new_any _ r s).mono ?_
    rintro e w0 ⟨g, rfl, hg, hb', hk'⟩
    have K0 := Lib.hid hk'
    clear hb' hk' hg hA
    go_wp2_with fail
    refine (rnew_any _ r s).mono ?_
    rintro e w1 ⟨rfl, hk'⟩
    have K1 := Lib.hid hk'
    clear hk'
    go_wp2_with fail
    refine (lives_any _).mono ?_
    rintro e w2 ⟨rfl, hk'⟩
    have K2 := Lib.hid hk'
    clear hk'
    go_wp2_with fail
    go_ret
    refine ⟨rfl, ?_⟩
    exact ((K0.out.chain0 (Nat.le_refl _) K1.out).alloc (Nat.le_trans K0.out.size K1.out.size) _).chain0 (Nat.le_refl _) K2.out
  · have hl : (n : Int) ≤ 200 := by omega
    go_enter Try.func3, Try.ntmps3
    go_wp2_with fail
    refine (new_any _ r s).mono ?_
    rintro e w0 ⟨g, rfl, hg, hb', hk'⟩
    have K0 := Lib.hid hk'
    have HB0 := Lib.hid hb'
    clear hb' hk'
    go_wp2_with fail
    refine (rnew_any _ r s).mono ?_
    rintro e w1 ⟨rfl, hk'⟩
    have K1 := Lib.hid hk'
    clear hk'
    go_wp2_with fail
    have HR : Hid (PlaysRel w g w1.heap.size (w1.alloc (.cells #[.int .i64 (newB r s).r, .int .i64 (newB r s).s, .int .i64 (newB r s).l, .int .i64 (newB r s).t] 26))) :=
      ⟨newB r s, new_inv r s, (HB0.out.keepS K1.out (by simp)).alloc _, Blk.new _ _ _, (K0.out.chain0 (Nat.le_refl _) K1.out).alloc (Nat.le_trans K0.out.size K1.out.size) _⟩
    have hx : w.heap.size ≤ w1.heap.size := Nat.le_trans K0.out.size K1.out.size
    clear HB0 K1 K0
    generalize w1.heap.size = x at *
    generalize w1.alloc _ = W1 at *
    go_loopw [9] (fun i wr => PlaysRel w g x wr ∧ ∃ k : Nat, k ≤ n ∧ i = .int .i64 k) (fun i _ => n - (intOf i).toNat)
    case atStart => exact ⟨HR.out, 0, Nat.zero_le _, rfl⟩
    case round =>
      obtain ⟨⟨b, hi, hb, hx', hk⟩, k, hkn, rfl⟩ := hrel
      have HNE := Lib.hid (hb.ne_ hx' (by decide))
      have HB := Lib.hid hb
      have HX := Lib.hid hx'
      have HK := Lib.hid hk
      clear hb hx' hk HR
      by_cases hlt : k < n
      · obtain ⟨bl, off, rfl, hbl, hcs⟩ := hA.2 (by omega)
        obtain ⟨kk, m, t, q0, q1, c0, c1, c2⟩ := hcs k hlt
        have d0 : wr.cell? ⟨bl, off + k * 3, none⟩ = some (.int .u8 kk) := (HK.out.cell (p := ⟨bl, off + k * 3, none⟩) hbl (by simp)).trans c0
        have d1 : wr.cell? ⟨bl, off + k * 3 + 1, none⟩ = some (.int .i64 m) := (HK.out.cell (p := ⟨bl, off + k * 3 + 1, none⟩) hbl (by simp)).trans c1
        have d2 : wr.cell? ⟨bl, off + k * 3 + 2, none⟩ = some (.int .i64 t) := (HK.out.cell (p := ⟨bl, off + k * 3 + 2, none⟩) hbl (by simp)).trans c2
        clear c0 c1 c2 hcs hA
        go_wp2_with fail
        refine (step_any _ g x b hi kk m t q0 q1 HB.out HX.out).mono ?_
        rintro e w2 ⟨rfl, hb2, hx2, hk2⟩
        have HB2 := Lib.hid hb2
        have HX2 := Lib.hid hx2
        have HK2 : Hid (Keep w.heap.size [] w w2) := HK.out.chain2 (Nat.le_refl _) hk2 hg hx
        have hi2 := step_inv hi kk m t
        clear hb2 hx2 hk2 HB HX HK d0 d1 d2
        go_wp2_with fail
        refine (level_any _ g _ hi2 0 HB2.out).mono ?_
        rintro e w3 ⟨rfl, hb3, hk3⟩
        have HB3 := Lib.hid hb3
        have HX3 := Lib.hid (HX2.out.keepS hk3 (by simpa using fun e => HNE.out e.symm))
        have HK3 : Hid (Keep w.heap.size [] w w3) := HK2.out.chain1 (Nat.le_refl _) hk3 hg
        clear hb3 hk3 HB2 HX2 HK2
        go_wp2_with fail
        refine (rlevel_any _ x _ hi2 0 HX3.out).mono ?_
        rintro e w4 ⟨rfl, hx4, hk4⟩
        have HX4 := Lib.hid hx4
        have HB4 := Lib.hid (HB3.out.keepS hk4 (by simpa using HNE.out))
        have HK4 : Hid (Keep w.heap.size [] w w4) := HK3.out.chain1 (Nat.le_refl _) hk4 hx
        clear hx4 hk4 HB3 HX3 HK3
        go_wp2_with fail
        go_roundw
        case rel => exact ⟨⟨_, adv_inv hi2 0, HB4.out, HX4.out, HK4.out⟩, k + 1, by omega, by go_num⟩
        case measure => simp [intOf]; omega
      · go_wp2_with fail
        refine (lives_any _).mono ?_
        rintro e w2 ⟨rfl, hk'⟩
        have K2 := Lib.hid hk'
        clear hk'
        go_wp2_with fail
        go_ret
        exact ⟨rfl, HK.out.chain0 (Nat.le_refl _) K2.out⟩
end Go.Proofs.Ytppmbigmpilggaa
