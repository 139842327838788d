/- The laws BucketClones and BucketNone: their walks. -/
import Derived.Test.YtppmbigmpilggaaFirst
namespace Go.Proofs.Ytppmbigmpilggaa
set_option linter.unusedVariables false
set_option linter.unusedSimpArgs false
open Go.RowKit

structure Pair (w : World) (g x : Nat) (wr : World) (b : Bu) : Prop where
  inv : b.Inv
  hb : Blk wr g 47 (bcells b)
  hx : Blk wr x 26 (rcells b)
def ClonesRel (w : World) (g x g' x' : Nat) (wr : World) : Prop := (∃ b : Bu, Pair w g x wr b) ∧ (∃ b : Bu, Pair w g' x' wr b) ∧ Keep w.heap.size [] w wr

theorem pair_keep {w w1 w2 : World} {g x : Nat} {b : Bu} {S : List Nat} (h : Pair w g x w1 b) (k : Keep w1.heap.size S w1 w2) (h1 : g ∉ S) (h2 : x ∉ S) : Pair w g x w2 b := ⟨h.inv, h.hb.keepS k h1, h.hx.keepS k h2⟩
theorem two_no {a b c : Nat} (h1 : a ≠ b) (h2 : a ≠ c) : a ∉ [b, c] := by simp; omega
theorem one_no {a b : Nat} (h1 : a ≠ b) : a ∉ [b] := by simp; omega
theorem pair_gx {w w1 : World} {g x g' x' : Nat} {b b' : Bu} (h : Pair w g x w1 b) (h' : Pair w g' x' w1 b') : g ≠ x' ∧ x ≠ g' ∧ g ≠ x ∧ g' ≠ x' :=
  ⟨h.hb.ne_ h'.hx (by decide), fun e => (h'.hb.ne_ h.hx (by decide)) e.symm, h.hb.ne_ h.hx (by decide), h'.hb.ne_ h'.hx (by decide)⟩

set_option maxHeartbeats 2000000 in
theorem clones_any (w : World) (r s : Int) (A : Option Addr) (n c : Nat) (hA : StepsAt w w.heap.size A n) :
    Calls Try.prog 6 #[.int .i64 r, .int .i64 s, .slice A n c] w (LawPost w) := by
  have hn := hA.1
  by_cases hlt : 200 < n
  · have hl : (200 : Int) < (n : Int) := by omega
    go_enter Try.func6, Try.ntmps6
    go_wp2_with fail
    refine (new_any _ r s).mono ?_
    rintro e w0 ⟨g, rfl, hg, hb', hk'⟩
    have K0 := Lib.hid hk'
    clear hb' hk' hg hA
    go_wp2_with fail
    refine (rnew_any _ r s).mono ?_
    rintro e w1 ⟨rfl, hk'⟩
    have K1 := Lib.hid hk'
    clear hk'
    go_wp2_with fail
    refine (lives_any _).mono ?_
    rintro e w2 ⟨rfl, hk'⟩
    have K2 := Lib.hid hk'
    clear hk'
    go_wp2_with fail
    go_ret
    exact ⟨rfl, ((K0.out.chain0 (Nat.le_refl _) K1.out).alloc (Nat.le_trans K0.out.size K1.out.size) _).chain0 (Nat.le_refl _) K2.out⟩
  · have hl : (n : Int) ≤ 200 := by omega
    go_enter Try.func6, Try.ntmps6
    go_wp2_with fail
    refine (new_any _ r s).mono ?_
    rintro e w0 ⟨g, rfl, hg, hb', hk'⟩
    have K0 := Lib.hid hk'
    have HB0 := Lib.hid hb'
    clear hb' hk'
    go_wp2_with fail
    refine (rnew_any _ r s).mono ?_
    rintro e w1 ⟨rfl, hk'⟩
    have K1 := Lib.hid hk'
    clear hk'
    go_wp2_with fail
    have HP : Hid (Pair w g w1.heap.size (w1.alloc (.cells #[.int .i64 (newB r s).r, .int .i64 (newB r s).s, .int .i64 (newB r s).l, .int .i64 (newB r s).t] 26)) (newB r s)) :=
      ⟨new_inv r s, (HB0.out.keepS K1.out (by simp)).alloc _, Blk.new _ _ _⟩
    have HK : Hid (Keep w.heap.size [] w (w1.alloc (.cells #[.int .i64 (newB r s).r, .int .i64 (newB r s).s, .int .i64 (newB r s).l, .int .i64 (newB r s).t] 26))) :=
      (K0.out.chain0 (Nat.le_refl _) K1.out).alloc (Nat.le_trans K0.out.size K1.out.size) _
    have hx : w.heap.size ≤ w1.heap.size := Nat.le_trans K0.out.size K1.out.size
    clear HB0 K1 K0
    refine (clone_any _ g (newB r s) HP.out.hb).mono ?_
    generalize w1.heap.size = x at *
    generalize w1.alloc _ = W1 at *
    rintro e w3 ⟨g1, rfl, hg1, hb3, hk3⟩
    have HB3 := Lib.hid hb3
    have HP3 := Lib.hid (pair_keep HP.out hk3 (by simp) (by simp))
    have HK3 : Hid (Keep w.heap.size [] w w3) := HK.out.chain0 (Nat.le_refl _) hk3
    have hg1' : w.heap.size ≤ g1 := Nat.le_trans HK.out.size hg1
    have HGG : Hid (g < g1) := Nat.lt_of_lt_of_le HP.out.hb.lt hg1
    have c0 : w3.cell? ⟨x, 0, none⟩ = some (.int .i64 (newB r s).r) := HP3.out.hx.cell 0
    have c1 : w3.cell? ⟨x, 1, none⟩ = some (.int .i64 (newB r s).s) := HP3.out.hx.cell 1
    have c2 : w3.cell? ⟨x, 2, none⟩ = some (.int .i64 (newB r s).l) := HP3.out.hx.cell 2
    have c3 : w3.cell? ⟨x, 3, none⟩ = some (.int .i64 (newB r s).t) := HP3.out.hx.cell 3
    clear hb3 hk3 HP HK hg1
    go_wp2_with fail
    have HR : Hid (ClonesRel w g x g1 w3.heap.size (w3.alloc (.cells #[.int .i64 (newB r s).r, .int .i64 (newB r s).s, .int .i64 (newB r s).l, .int .i64 (newB r s).t] 26))) :=
      ⟨⟨newB r s, HP3.out.inv, HP3.out.hb.alloc _, HP3.out.hx.alloc _⟩, ⟨newB r s, HP3.out.inv, HB3.out.alloc _, Blk.new _ _ _⟩, HK3.out.alloc HK3.out.size _⟩
    have hx1 : w.heap.size ≤ w3.heap.size := HK3.out.size
    have HXX : Hid (x < w3.heap.size) := HP3.out.hx.lt
    clear HB3 HK3 HP3 c0 c1 c2 c3
    generalize w3.heap.size = x1 at *
    generalize w3.alloc _ = W2 at *
    go_loopw [11] (fun i wr => ClonesRel w g x g1 x1 wr ∧ ∃ k : Nat, k ≤ n ∧ i = .int .i64 k) (fun i _ => n - (intOf i).toNat)
    case atStart => exact ⟨HR.out, 0, Nat.zero_le _, rfl⟩
    case round =>
      obtain ⟨⟨⟨b, hp⟩, ⟨b', hp'⟩, hk⟩, k, hkn, rfl⟩ := hrel
      have HP := Lib.hid hp
      have HP' := Lib.hid hp'
      have HK := Lib.hid hk
      clear hp hp' hk HR
      by_cases hlt : k < n
      · obtain ⟨bl, off, rfl, hbl, hcs⟩ := hA.2 (by omega)
        obtain ⟨kk, m, t, q0, q1, c0, c1, c2⟩ := hcs k hlt
        have d0 : wr.cell? ⟨bl, off + k * 3, none⟩ = some (.int .u8 kk) := (HK.out.cell (p := ⟨bl, off + k * 3, none⟩) hbl (by simp)).trans c0
        have d1 : wr.cell? ⟨bl, off + k * 3 + 1, none⟩ = some (.int .i64 m) := (HK.out.cell (p := ⟨bl, off + k * 3 + 1, none⟩) hbl (by simp)).trans c1
        have d2 : wr.cell? ⟨bl, off + k * 3 + 2, none⟩ = some (.int .i64 t) := (HK.out.cell (p := ⟨bl, off + k * 3 + 2, none⟩) hbl (by simp)).trans c2
        clear c0 c1 c2 hcs hA
        by_cases he : k % 2 = 0
        · have f1 : (((k : Int) % 2) == 0) = true := beq_iff_eq.2 (by omega)
          have f2 : (((k : Int) % 2) == 1) = false := beq_eq_false_iff_ne.2 (by omega)
          clear he
          go_wp2_with fail
          refine (step_any _ g x b HP.out.inv kk m t q0 q1 HP.out.hb HP.out.hx).mono ?_
          rintro e w4 ⟨rfl, hb4, hx4, hk4⟩
          have HR4 : Hid (ClonesRel w g x g1 x1 w4) :=
            ⟨⟨_, step_inv HP.out.inv kk m t, hb4, hx4⟩, ⟨b', pair_keep HP'.out hk4 (two_no (by have := HGG.out; omega) (fun e => (pair_gx HP.out HP'.out).2.1 e.symm)) (two_no (fun e => (pair_gx HP.out HP'.out).1 e.symm) (by have := HXX.out; omega))⟩, HK.out.chain2 (Nat.le_refl _) hk4 hg hx⟩
          clear hb4 hx4 hk4 HP HP' HK d0 d1 d2
          go_wp2_with fail
          go_roundw
          case rel => exact ⟨HR4.out, k + 1, by omega, by go_num⟩
          case measure => simp [intOf]; omega
        · have f1 : (((k : Int) % 2) == 0) = false := beq_eq_false_iff_ne.2 (by omega)
          have f2 : (((k : Int) % 2) == 1) = true := beq_iff_eq.2 (by omega)
          clear he
          go_wp2_with fail
          refine (step_any _ g1 x1 b' HP'.out.inv kk m t q0 q1 HP'.out.hb HP'.out.hx).mono ?_
          rintro e w4 ⟨rfl, hb4, hx4, hk4⟩
          have HR4 : Hid (ClonesRel w g x g1 x1 w4) :=
            ⟨⟨b, pair_keep HP.out hk4 (two_no (by have := HGG.out; omega) (fun e => (pair_gx HP.out HP'.out).1 e)) (two_no (fun e => (pair_gx HP.out HP'.out).2.1 e) (by have := HXX.out; omega))⟩, ⟨_, step_inv HP'.out.inv kk m t, hb4, hx4⟩, HK.out.chain2 (Nat.le_refl _) hk4 hg1' hx1⟩
          clear hb4 hx4 hk4 HP HP' HK d0 d1 d2
          go_wp2_with fail
          go_roundw
          case rel => exact ⟨HR4.out, k + 1, by omega, by go_num⟩
          case measure => simp [intOf]; omega
      · clear hA
        go_wp2_with fail
        refine (level_any _ g b HP.out.inv 0 HP.out.hb).mono ?_
        rintro e w3 ⟨rfl, hb3, hk3⟩
        have HX3 := Lib.hid (HP.out.hx.keepS hk3 (one_no (fun e => (pair_gx HP.out HP'.out).2.2.1 e.symm)))
        have HP3 := Lib.hid (pair_keep HP'.out hk3 (one_no (by have := HGG.out; omega)) (one_no (fun e => (pair_gx HP.out HP'.out).1 e.symm)))
        have HK3 : Hid (Keep w.heap.size [] w w3) := HK.out.chain1 (Nat.le_refl _) hk3 hg
        have HI := Lib.hid HP.out.inv
        have HNE : Hid (g1 ≠ x ∧ x1 ≠ x) := ⟨fun e => (pair_gx HP.out HP'.out).2.1 e.symm, by have := HXX.out; omega⟩
        clear hb3 hk3 HP HP' HK
        go_wp2_with fail
        refine (rlevel_any _ x b HI.out 0 HX3.out).mono ?_
        rintro e w4 ⟨rfl, hx4, hk4⟩
        have HP4 := Lib.hid (pair_keep HP3.out hk4 (one_no HNE.out.1) (one_no HNE.out.2))
        have HK4 : Hid (Keep w.heap.size [] w w4) := HK3.out.chain1 (Nat.le_refl _) hk4 hx
        clear hx4 hk4 HX3 HP3 HK3
        go_wp2_with fail
        refine (level_any _ g1 b' HP4.out.inv 0 HP4.out.hb).mono ?_
        rintro e w5 ⟨rfl, hb5, hk5⟩
        have HX5 := Lib.hid (HP4.out.hx.keepS hk5 (one_no (fun e => HP4.out.hb.ne_ HP4.out.hx (by decide) e.symm)))
        have HK5 : Hid (Keep w.heap.size [] w w5) := HK4.out.chain1 (Nat.le_refl _) hk5 hg1'
        have HI5 := Lib.hid HP4.out.inv
        clear hb5 hk5 HK4 HP4
        go_wp2_with fail
        refine (rlevel_any _ x1 b' HI5.out 0 HX5.out).mono ?_
        rintro e w6 ⟨rfl, hx6, hk6⟩
        have HK6 : Hid (Keep w.heap.size [] w w6) := HK5.out.chain1 (Nat.le_refl _) hk6 hx1
        clear hx6 hk6 HK5 HX5
        go_wp2_with fail
        refine (lives_any _).mono ?_
        rintro e w7 ⟨rfl, hk'⟩
        have K7 := Lib.hid hk'
        clear hk'
        go_wp2_with fail
        go_ret
        exact ⟨rfl, HK6.out.chain0 (Nat.le_refl _) K7.out⟩
end Go.Proofs.Ytppmbigmpilggaa
