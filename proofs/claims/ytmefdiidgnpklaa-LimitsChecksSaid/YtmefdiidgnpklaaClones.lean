/- The law LimitsClones: its walk. -/
import Derived.Test.YtmefdiidgnpklaaHys
namespace Go.Proofs.Ytmefdiidgnpklaa
set_option linter.unusedVariables false
set_option linter.unusedSimpArgs false
open Go.RowKit
def lcs (l : Li) : Array Value := lcells l
theorem count_0 (w : World) (g : Nat) (W : Wt) (hb : Blk w g 42 (wcells W)) :
    Calls Try.prog 17 #[bptr g, .int .i64 0] w fun e w' => e = .returned (.int .i64 W.c0) ∧ w = w' := count_in w g W 0 (by decide) hb
theorem fact_half (n : Nat) : ((n / 2 : Nat) : Int) = (n : Int) / 2 := by omega

set_option maxRecDepth 100000 in
set_option maxHeartbeats 8000000 in
theorem clones_any (w : World) (l : Li) (hf : l.Fit) (s : Int) (hs : Fit s) (A : Option Addr) (n c : Nat) (hA : IntsAt w w.heap.size A n) :
    Calls Try.prog 7 #[lagg l, .int .i64 s, .slice A n c] w (LawPost w) := by
  have hn := hA.1
  have HA := Lib.hid hA
  clear hA
  by_cases hlt : 200 < n
  · have hl : (200 : Int) < (n : Int) := by omega
    go_enter Try.func7, Try.ntmps7
    go_wp2_with fail
    obtain ⟨W0, hW⟩ : ∃ W0, W0 = (w.alloc (lbox l)).alloc (.cells zcells 42) := ⟨_, rfl⟩
    have HZ : Hid (Blk W0 (w.heap.size + 1) 42 zcells) := by
      rw [hW]
      have h := Blk.new (w.alloc (lbox l)) 42 zcells
      have e : (w.alloc (lbox l)).heap.size = w.heap.size + 1 := by simp
      rwa [e] at h
    have HL : Hid (Blk W0 w.heap.size 23 (lcells l)) := by rw [hW]; exact (Blk.new w 23 (lcells l)).alloc _
    have K0 : Hid (Keep w.heap.size [] w W0) := by rw [hW]; exact keep_a2 w _ _
    have HQ : Hid ((w.alloc (.cells #[.int .i64 l.hl, .int .i64 l.sl, .int .i64 l.sh, .int .i64 l.hh] 23)).alloc (.cells #[.bool false, .int .i64 0, .int .i64 0, .int .i64 0, .int .i64 0, .int .u64 0, .int .i64 0, .int .i64 0, .int .i64 0, .int .i64 0, .int .i64 0, .int .i64 0] 42) = W0) := hW.symm
    rw [HQ.out]
    clear hW HQ
    have d0 := box4 HL.out
    refine (feed_nil _ 5).mono ?_
    rintro e w' ⟨rfl, rfl⟩
    go_wp2_with fail
    refine (feed_zero _ _ 5 HZ.out).mono ?_
    rintro e w' ⟨rfl, rfl⟩
    go_wp2_with fail
    refine (count_nil _ 0).mono ?_
    rintro e w' ⟨rfl, rfl⟩
    go_wp2_with fail
    refine (count_zero _ _ 0 HZ.out).mono ?_
    rintro e w' ⟨rfl, rfl⟩
    go_wp2_with fail
    refine (clone_nil _).mono ?_
    rintro e w' ⟨rfl, rfl⟩
    go_wp2_with fail
    refine (clone_zero _ _ HZ.out).mono ?_
    rintro e w' ⟨rfl, rfl⟩
    go_wp2_with fail
    refine (lives_any _).mono ?_
    rintro e wl ⟨rfl, hk⟩
    have KL : Hid (Keep w.heap.size [] w wl) := K0.out.chain0 (Nat.le_refl _) hk
    clear hk
    go_wp2_with fail
    go_ret
    exact ⟨rfl, KL.out⟩
  have hl : (n : Int) ≤ 200 := by omega
  cases hok : newOk l s with
  | false =>
    have HOK := Lib.hid hok
    clear hok
    go_enter Try.func7, Try.ntmps7
    go_wp2_with fail
    obtain ⟨W0, hW⟩ : ∃ W0, W0 = (w.alloc (lbox l)).alloc (.cells zcells 42) := ⟨_, rfl⟩
    have HZ : Hid (Blk W0 (w.heap.size + 1) 42 zcells) := by
      rw [hW]
      have h := Blk.new (w.alloc (lbox l)) 42 zcells
      have e : (w.alloc (lbox l)).heap.size = w.heap.size + 1 := by simp
      rwa [e] at h
    have HL : Hid (Blk W0 w.heap.size 23 (lcells l)) := by rw [hW]; exact (Blk.new w 23 (lcells l)).alloc _
    have K0 : Hid (Keep w.heap.size [] w W0) := by rw [hW]; exact keep_a2 w _ _
    have HQ : Hid ((w.alloc (.cells #[.int .i64 l.hl, .int .i64 l.sl, .int .i64 l.sh, .int .i64 l.hh] 23)).alloc (.cells #[.bool false, .int .i64 0, .int .i64 0, .int .i64 0, .int .i64 0, .int .u64 0, .int .i64 0, .int .i64 0, .int .i64 0, .int .i64 0, .int .i64 0, .int .i64 0] 42) = W0) := hW.symm
    rw [HQ.out]
    clear hW HQ
    have d0 := box4 HL.out
    refine (feed_nil _ 5).mono ?_
    rintro e w' ⟨rfl, rfl⟩
    go_wp2_with fail
    refine (feed_zero _ _ 5 HZ.out).mono ?_
    rintro e w' ⟨rfl, rfl⟩
    go_wp2_with fail
    refine (count_nil _ 0).mono ?_
    rintro e w' ⟨rfl, rfl⟩
    go_wp2_with fail
    refine (count_zero _ _ 0 HZ.out).mono ?_
    rintro e w' ⟨rfl, rfl⟩
    go_wp2_with fail
    refine (clone_nil _).mono ?_
    rintro e w' ⟨rfl, rfl⟩
    go_wp2_with fail
    refine (clone_zero _ _ HZ.out).mono ?_
    rintro e w' ⟨rfl, rfl⟩
    go_wp2_with fail
    refine (new_no _ l s hf hs HOK.out).mono ?_
    rintro e w1 ⟨rfl, hk⟩
    have K1 : Hid (Keep w.heap.size [] w w1) := K0.out.chain0 (Nat.le_refl _) hk
    have HL1 := Lib.hid (HL.out.keepS hk (by simp))
    have d1 := box4 HL1.out
    clear hk d0 HL K0
    go_wp2_with fail
    refine (rnew_no _ l s hf hs HOK.out).mono ?_
    rintro e w2 ⟨rfl, hk⟩
    have K2 : Hid (Keep w.heap.size [] w w2) := K1.out.chain0 (Nat.le_refl _) hk
    clear hk
    go_wp2_with fail
    refine (lives_any _).mono ?_
    rintro e wl ⟨rfl, hk⟩
    have KL : Hid (Keep w.heap.size [] w wl) := (K2.out.alloc K2.out.size _).chain0 (Nat.le_refl _) hk
    clear hk
    go_wp2_with fail
    go_ret
    exact ⟨rfl, KL.out⟩
  | true =>
    have HOK := Lib.hid hok
    clear hok
    go_enter Try.func7, Try.ntmps7
    go_wp2_with fail
    obtain ⟨W0, hW⟩ : ∃ W0, W0 = (w.alloc (lbox l)).alloc (.cells zcells 42) := ⟨_, rfl⟩
    have HZ : Hid (Blk W0 (w.heap.size + 1) 42 zcells) := by
      rw [hW]
      have h := Blk.new (w.alloc (lbox l)) 42 zcells
      have e : (w.alloc (lbox l)).heap.size = w.heap.size + 1 := by simp
      rwa [e] at h
    have HL : Hid (Blk W0 w.heap.size 23 (lcells l)) := by rw [hW]; exact (Blk.new w 23 (lcells l)).alloc _
    have K0 : Hid (Keep w.heap.size [] w W0) := by rw [hW]; exact keep_a2 w _ _
    have HQ : Hid ((w.alloc (.cells #[.int .i64 l.hl, .int .i64 l.sl, .int .i64 l.sh, .int .i64 l.hh] 23)).alloc (.cells #[.bool false, .int .i64 0, .int .i64 0, .int .i64 0, .int .i64 0, .int .u64 0, .int .i64 0, .int .i64 0, .int .i64 0, .int .i64 0, .int .i64 0, .int .i64 0] 42) = W0) := hW.symm
    rw [HQ.out]
    clear hW HQ
    have d0 := box4 HL.out
    refine (feed_nil _ 5).mono ?_
    rintro e w' ⟨rfl, rfl⟩
    go_wp2_with fail
    refine (feed_zero _ _ 5 HZ.out).mono ?_
    rintro e w' ⟨rfl, rfl⟩
    go_wp2_with fail
    refine (count_nil _ 0).mono ?_
    rintro e w' ⟨rfl, rfl⟩
    go_wp2_with fail
    refine (count_zero _ _ 0 HZ.out).mono ?_
    rintro e w' ⟨rfl, rfl⟩
    go_wp2_with fail
    refine (clone_nil _).mono ?_
    rintro e w' ⟨rfl, rfl⟩
    go_wp2_with fail
    refine (clone_zero _ _ HZ.out).mono ?_
    rintro e w' ⟨rfl, rfl⟩
    go_wp2_with fail
    refine (new_yes _ l s hf hs HOK.out).mono ?_
    rintro e w1 ⟨g, rfl, hg, hb, hk⟩
    have K1 : Hid (Keep w.heap.size [] w w1) := K0.out.chain0 (Nat.le_refl _) hk
    have HL1 := Lib.hid (HL.out.keepS hk (by simp))
    have HB1 := Lib.hid hb
    have hg' : w.heap.size ≤ g := Nat.le_trans K0.out.size hg
    have d1 := box4 HL1.out
    clear hk hb hg d0 HL K0
    go_wp2_with fail
    refine (rnew_yes _ l s hf hs HOK.out).mono ?_
    rintro e w2 ⟨rfl, hk⟩
    have K2 : Hid (Keep w.heap.size [] w w2) := K1.out.chain0 (Nat.le_refl _) hk
    have HB2 := Lib.hid (HB1.out.keepS hk (by simp))
    clear hk d1 HL1 HB1 K1
    go_wp2_with fail
    obtain ⟨W1, hW⟩ : ∃ W1, W1 = w2.alloc (.cells (rcells (newW l s)) 35) := ⟨_, rfl⟩
    have HP : Hid (P2 W1 g w2.heap.size (newW l s)) := by rw [hW]; exact ⟨newW_inv l s hf hs HOK.out, HB2.out.alloc _, Blk.new _ _ _⟩
    have HK : Hid (Keep w.heap.size [] w W1) := by rw [hW]; exact K2.out.alloc K2.out.size _
    have hx' : w.heap.size ≤ w2.heap.size := K2.out.size
    have HQ : Hid (w2.alloc (.cells #[.int .i64 l.hl, .int .i64 l.sl, .int .i64 l.sh, .int .i64 l.hh, .int .i64 s, .int .i64 0, .int .i64 0, .int .i64 0, .int .i64 0, .int .i64 0, .int .i64 0] 35) = W1) := hW.symm
    rw [HQ.out]
    clear hW HQ K2 HB2 HOK HZ
    generalize w2.heap.size = x at *
    go_loopw [14] (fun i wr => (Keep w.heap.size [] w wr ∧ ∃ W, P2 wr g x W) ∧ ∃ k : Nat, k ≤ n / 2 ∧ i = .int .i64 k) (fun i _ => n / 2 - (intOf i).toNat)
    case atStart => exact ⟨⟨HK.out, _, HP.out⟩, 0, Nat.zero_le _, rfl⟩
    case round =>
      obtain ⟨⟨hk, W, hp⟩, k, hkn, rfl⟩ := hrel
      have HNE := Lib.hid hp.ne
      have HP2 := Lib.hid hp
      have HK2 := Lib.hid hk
      clear hk hp HP HK
      by_cases hlt : k < n / 2
      · have hk' : k < n := by omega
        have hki : (k : Int) < (n : Int) / 2 := by omega
        obtain ⟨bl, off, rfl, hbl, hcs⟩ := HA.out.2 (by omega)
        obtain ⟨v, hv, c0'⟩ := hcs k hk'
        have c0 : wr.cell? ⟨bl, off + k, none⟩ = some (.int .i64 v) := (HK2.out.cell (p := ⟨bl, off + k, none⟩) hbl (by simp)).trans c0'
        have HV := Lib.hid hv
        clear c0' hcs HA hv
        go_wp2_with fail
        go_region_held3 (fun w' => w'.cell? ⟨bl, off + k, none⟩ = some (.int .i64 v))
          (first | exact c0 | exact c1 | exact c2)
          (first
            | (go_at_call 15
               refine (feed_any _ g W HP2.out.inv v HV.out (by exact HP2.out.hb)).mono ?_
               rintro e wa ⟨rfl, hb1, hk1⟩
               have k1 := hk1.undrew
               have c1 : wa.cell? ⟨bl, off + k, none⟩ = some (.int .i64 v) := (k1.cell (p := ⟨bl, off + k, none⟩) (Nat.lt_of_lt_of_le hbl HK2.out.size) (one_no (by simp only; omega))).trans c0
               have HBa := Lib.hid hb1
               have HXa := Lib.hid (HP2.out.hx.keepS k1 (one_no (fun e => HNE.out e.symm)))
               have HKa : Hid (Keep w.heap.size [] w wa) := HK2.out.chain1 (Nat.le_refl _) k1 hg'
               have HKK1 := Lib.hid k1
               clear hb1 hk1 k1)
            | (go_at_call 16
               refine (rfeed_any _ x W HP2.out.inv v (by exact HXa.out)).mono ?_
               rintro e wb ⟨rfl, hb2, hk2⟩
               have c2 : wb.cell? ⟨bl, off + k, none⟩ = some (.int .i64 v) := (hk2.cell (p := ⟨bl, off + k, none⟩) (Nat.lt_of_lt_of_le hbl HKa.out.size) (one_no (by simp only; omega))).trans c1
               have HPb : Hid (P2 wb g x (W.feed v)) := ⟨feed_inv HP2.out.inv v, HBa.out.keepS hk2 (one_no HNE.out), hb2⟩
               have HKb : Hid (Keep w.heap.size [] w wb) := HKa.out.chain1 (Nat.le_refl _) hk2 hx'
               have HKK2 := Lib.hid hk2
               clear hb2 hk2))
        go_wp2_with fail
        go_roundw
        case rel => exact ⟨⟨HKb.out, _, HPb.out⟩, k + 1, by omega, by go_num⟩
        case measure => simp [intOf]; omega
      · have hki : ¬ ((k : Int) < (n : Int) / 2) := by omega
        go_wp2_with fail
        refine (clone_any _ g W HP2.out.hb).mono ?_
        rintro e w3 ⟨g1, rfl, hg1, hb3, hk3⟩
        have HB3 := Lib.hid hb3
        have HP3 := Lib.hid (HP2.out.keep hk3 (by simp) (by simp))
        have HK3 : Hid (Keep w.heap.size [] w w3) := HK2.out.chain0 (Nat.le_refl _) hk3
        have hg1' : w.heap.size ≤ g1 := Nat.le_trans HK2.out.size hg1
        have HGG : Hid (g < g1) := Nat.lt_of_lt_of_le HP2.out.hb.lt hg1
        clear hb3 hk3 HP2 HK2 hg1
        have q0 : w3.cell? ⟨x, 0, none⟩ = some (.int .i64 W.l.hl) := HP3.out.hx.cell 0
        have q1 : w3.cell? ⟨x, 1, none⟩ = some (.int .i64 W.l.sl) := HP3.out.hx.cell 1
        have q2 : w3.cell? ⟨x, 2, none⟩ = some (.int .i64 W.l.sh) := HP3.out.hx.cell 2
        have q3 : w3.cell? ⟨x, 3, none⟩ = some (.int .i64 W.l.hh) := HP3.out.hx.cell 3
        have q4 : w3.cell? ⟨x, 4, none⟩ = some (.int .i64 W.s) := HP3.out.hx.cell 4
        have q5 : w3.cell? ⟨x, 5, none⟩ = some (.int .i64 W.last) := HP3.out.hx.cell 5
        have q6 : w3.cell? ⟨x, 6, none⟩ = some (.int .i64 W.c0) := HP3.out.hx.cell 6
        have q7 : w3.cell? ⟨x, 7, none⟩ = some (.int .i64 W.c1) := HP3.out.hx.cell 7
        have q8 : w3.cell? ⟨x, 8, none⟩ = some (.int .i64 W.c2) := HP3.out.hx.cell 8
        have q9 : w3.cell? ⟨x, 9, none⟩ = some (.int .i64 W.c3) := HP3.out.hx.cell 9
        have q10 : w3.cell? ⟨x, 10, none⟩ = some (.int .i64 W.c4) := HP3.out.hx.cell 10
        go_wp2_with fail
        obtain ⟨W2, hW⟩ : ∃ W2, W2 = w3.alloc (.cells (rcells W) 35) := ⟨_, rfl⟩
        have HR : Hid ((∃ W, P2 W2 g x W) ∧ (∃ W, P2 W2 g1 w3.heap.size W) ∧ Keep w.heap.size [] w W2) := by
          rw [hW]; exact ⟨⟨W, HP3.out.inv, HP3.out.hb.alloc _, HP3.out.hx.alloc _⟩, ⟨W, HP3.out.inv, HB3.out.alloc _, Blk.new _ _ _⟩, HK3.out.alloc HK3.out.size _⟩
        have hx1 : w.heap.size ≤ w3.heap.size := HK3.out.size
        have HXX : Hid (x < w3.heap.size) := HP3.out.hx.lt
        have HQ : Hid (w3.alloc (.cells #[.int .i64 W.l.hl, .int .i64 W.l.sl, .int .i64 W.l.sh, .int .i64 W.l.hh, .int .i64 W.s, .int .i64 W.last, .int .i64 W.c0, .int .i64 W.c1, .int .i64 W.c2, .int .i64 W.c3, .int .i64 W.c4] 35) = W2) := hW.symm
        rw [HQ.out]
        clear hW HQ HB3 HP3 HK3 q0 q1 q2 q3 q4 q5 q6 q7 q8 q9 q10 HNE
        generalize w3.heap.size = x1 at *
        go_loopw [17] (fun i wr => ((∃ W, P2 wr g x W) ∧ (∃ W, P2 wr g1 x1 W) ∧ Keep w.heap.size [] w wr) ∧ ∃ k : Nat, k ≤ n ∧ i = .int .i64 k) (fun i _ => n - (intOf i).toNat)
        case atStart => exact ⟨HR.out, n / 2, by omega, by rw [fact_half]⟩
        case round =>
          obtain ⟨⟨⟨V, hp⟩, ⟨V', hp'⟩, hk⟩, k2, hkn2, rfl⟩ := hrel
          have HP := Lib.hid hp
          have HP' := Lib.hid hp'
          have HK := Lib.hid hk
          have HN := Lib.hid hp.ne
          have HN' := Lib.hid hp'.ne
          have HGX : Hid (g ≠ x1 ∧ g1 ≠ x) := ⟨hp.hb.ne_ hp'.hx (by decide), hp'.hb.ne_ hp.hx (by decide)⟩
          clear hp hp' hk HR
          by_cases hlt2 : k2 < n
          · obtain ⟨bl, off, rfl, hbl, hcs⟩ := HA.out.2 (by omega)
            obtain ⟨v, hv, c0'⟩ := hcs k2 hlt2
            have c0 : wr.cell? ⟨bl, off + k2, none⟩ = some (.int .i64 v) := (HK.out.cell (p := ⟨bl, off + k2, none⟩) hbl (by simp)).trans c0'
            have HV := Lib.hid hv
            clear c0' hcs HA hv
            by_cases he : k2 % 2 = 0
            · have f1 : (((k2 : Int) % 2) == 0) = true := beq_iff_eq.2 (by omega)
              have f2 : (((k2 : Int) % 2) == 1) = false := beq_eq_false_iff_ne.2 (by omega)
              have f3 : Int.tmod (k2 : Int) 2 = 0 := by rw [Int.tmod_eq_emod_of_nonneg (by omega)]; omega
              clear he
              go_wp2_with fail
              refine wp_region_held_drew (S := (fun w' => w'.cell? ⟨bl, off + k2, none⟩ = some (.int .i64 v))) (by kernel_rfl) (by exact c0) (fun hHeld => ?_)
              refine wpAnyH_take (i := 0) (oi := { dst := some 88, op := Op.move (Operand.tmp 17), type := 3, pos := _, after := #[], guard := none }) (v := _) rfl (by kernel_rfl) (by kernel_rfl) (by kernel_rfl) (fun _ _ _ h => h) (Or.inl ⟨by rfl, by (intro wS hSw; (try dsimp only at hSw); go_simp; try with_reducible rfl)⟩) (by assumption) ?_
              (try simp only [Act.put, List.setIfInBounds_toArray, List.set_cons_zero, List.set_cons_succ])
              refine wpAnyH_take (i := 1) (oi := { dst := some 89, op := Op.binOp BinOp.rem 3 (Operand.tmp 88) (Operand.const (Value.int IntKind.i64 2)) 3, type := 3, pos := _, after := #[{ on := 0, ground := Ground.data }], guard := none }) (v := _) rfl (by kernel_rfl) (by kernel_rfl) (by kernel_rfl) (fun _ _ _ h => h) (Or.inl ⟨by rfl, by (intro wS hSw; (try dsimp only at hSw); go_simp; try with_reducible rfl)⟩) (by assumption) ?_
              (try simp only [Act.put, List.setIfInBounds_toArray, List.set_cons_zero, List.set_cons_succ])
              refine wpAnyH_take (i := 2) (oi := { dst := some 90, op := Op.binOp BinOp.eql 3 (Operand.tmp 89) (Operand.const (Value.int IntKind.i64 0)) 3, type := 4, pos := _, after := #[{ on := 1, ground := Ground.data }], guard := none }) (v := _) rfl (by kernel_rfl) (by kernel_rfl) (by kernel_rfl) (fun _ _ _ h => h) (Or.inl ⟨by rfl, by (intro wS hSw; (try dsimp only at hSw); go_simp; try with_reducible rfl)⟩) (by assumption) ?_
              (try simp only [Act.put, List.setIfInBounds_toArray, List.set_cons_zero, List.set_cons_succ])
              refine wpAnyH_take (i := 3) (oi := { dst := some 91, op := Op.move (Operand.tmp 90), type := 4, pos := _, after := #[{ on := 2, ground := Ground.data }], guard := none }) (v := _) rfl (by kernel_rfl) (by kernel_rfl) (by kernel_rfl) (fun _ _ _ h => h) (Or.inl ⟨by rfl, by (intro wS hSw; (try dsimp only at hSw); go_simp; try with_reducible rfl)⟩) (by assumption) ?_
              (try simp only [Act.put, List.setIfInBounds_toArray, List.set_cons_zero, List.set_cons_succ])
              refine wpAnyH_take (i := 4) (oi := { dst := some 92, op := Op.move (Operand.tmp 9), type := 29, pos := _, after := #[{ on := 3, ground := Ground.guard }], guard := some (3, true) }) (v := _) rfl (by kernel_rfl) (by kernel_rfl) (by kernel_rfl) (fun _ _ _ h => h) (Or.inl ⟨by rfl, by (intro wS hSw; (try dsimp only at hSw); go_simp; try with_reducible rfl)⟩) (by assumption) ?_
              (try simp only [Act.put, List.setIfInBounds_toArray, List.set_cons_zero, List.set_cons_succ])
              refine wpAnyH_take (i := 5) (oi := { dst := some 93, op := Op.move (Operand.tmp 2), type := 28, pos := _, after := #[{ on := 3, ground := Ground.guard }], guard := some (3, true) }) (v := _) rfl (by kernel_rfl) (by kernel_rfl) (by kernel_rfl) (fun _ _ _ h => h) (Or.inl ⟨by rfl, by (intro wS hSw; (try dsimp only at hSw); go_simp; try with_reducible rfl)⟩) (by assumption) ?_
              (try simp only [Act.put, List.setIfInBounds_toArray, List.set_cons_zero, List.set_cons_succ])
              refine wpAnyH_take (i := 6) (oi := { dst := some 94, op := Op.move (Operand.tmp 17), type := 3, pos := _, after := #[{ on := 3, ground := Ground.guard }], guard := some (3, true) }) (v := _) rfl (by kernel_rfl) (by kernel_rfl) (by kernel_rfl) (fun _ _ _ h => h) (Or.inl ⟨by rfl, by (intro wS hSw; (try dsimp only at hSw); go_simp; try with_reducible rfl)⟩) (by assumption) ?_
              (try simp only [Act.put, List.setIfInBounds_toArray, List.set_cons_zero, List.set_cons_succ])
              refine wpAnyH_take (i := 7) (oi := { dst := some 95, op := Op.indexAddr 28 (Operand.tmp 93) (Operand.tmp 94), type := 0, pos := _, after := #[{ on := 5, ground := Ground.data }, { on := 6, ground := Ground.data }, { on := 3, ground := Ground.guard }], guard := some (3, true) }) (v := _) rfl (by kernel_rfl) (by kernel_rfl) (by kernel_rfl) (fun _ _ _ h => h) (Or.inl ⟨by rfl, by (intro wS hSw; (try dsimp only at hSw); go_simp; try with_reducible rfl)⟩) (by assumption) ?_
              (try simp only [Act.put, List.setIfInBounds_toArray, List.set_cons_zero, List.set_cons_succ])
              refine wpAnyH_take (i := 8) (oi := { dst := some 96, op := Op.load 3 (Operand.tmp 95), type := 3, pos := _, after := #[{ on := 7, ground := Ground.data }, { on := 3, ground := Ground.guard }], guard := some (3, true) }) (v := _) rfl (by kernel_rfl) (by kernel_rfl) (by kernel_rfl) (fun _ _ _ h => h) (Or.inl ⟨by rfl, by (intro wS hSw; (try dsimp only at hSw); go_simp; try with_reducible rfl)⟩) (by assumption) ?_
              (try simp only [Act.put, List.setIfInBounds_toArray, List.set_cons_zero, List.set_cons_succ])
              refine wpAnyH_take (i := 10) (oi := { dst := some 98, op := Op.move (Operand.tmp 2), type := 28, pos := _, after := #[{ on := 3, ground := Ground.guard }], guard := some (3, true) }) (v := _) rfl (by kernel_rfl) (by kernel_rfl) (by kernel_rfl) (fun _ _ _ h => h) (Or.inl ⟨by rfl, by (intro wS hSw; (try dsimp only at hSw); go_simp; try with_reducible rfl)⟩) (by assumption) ?_
              (try simp only [Act.put, List.setIfInBounds_toArray, List.set_cons_zero, List.set_cons_succ])
              refine wpAnyH_take (i := 11) (oi := { dst := some 99, op := Op.move (Operand.tmp 17), type := 3, pos := _, after := #[{ on := 3, ground := Ground.guard }], guard := some (3, true) }) (v := _) rfl (by kernel_rfl) (by kernel_rfl) (by kernel_rfl) (fun _ _ _ h => h) (Or.inl ⟨by rfl, by (intro wS hSw; (try dsimp only at hSw); go_simp; try with_reducible rfl)⟩) (by assumption) ?_
              (try simp only [Act.put, List.setIfInBounds_toArray, List.set_cons_zero, List.set_cons_succ])
              refine wpAnyH_take (i := 12) (oi := { dst := some 100, op := Op.indexAddr 28 (Operand.tmp 98) (Operand.tmp 99), type := 0, pos := _, after := #[{ on := 10, ground := Ground.data }, { on := 11, ground := Ground.data }, { on := 3, ground := Ground.guard }], guard := some (3, true) }) (v := _) rfl (by kernel_rfl) (by kernel_rfl) (by kernel_rfl) (fun _ _ _ h => h) (Or.inl ⟨by rfl, by (intro wS hSw; (try dsimp only at hSw); go_simp; try with_reducible rfl)⟩) (by assumption) ?_
              (try simp only [Act.put, List.setIfInBounds_toArray, List.set_cons_zero, List.set_cons_succ])
              refine wpAnyH_take (i := 13) (oi := { dst := some 101, op := Op.load 3 (Operand.tmp 100), type := 3, pos := _, after := #[{ on := 12, ground := Ground.data }, { on := 3, ground := Ground.guard }], guard := some (3, true) }) (v := _) rfl (by kernel_rfl) (by kernel_rfl) (by kernel_rfl) (fun _ _ _ h => h) (Or.inl ⟨by rfl, by (intro wS hSw; (try dsimp only at hSw); go_simp; try with_reducible rfl)⟩) (by assumption) ?_
              (try simp only [Act.put, List.setIfInBounds_toArray, List.set_cons_zero, List.set_cons_succ])
              refine wpAnyH_ready (rs := [9]) (by kernel_rfl) (by simp) ?_
              refine AllReadyH.cons (o := { dst := some 97, op := Op.call { callee := Callee.value (Operand.func 15), args := #[Operand.tmp 92, Operand.tmp 96], argTypes := #[29, 3] }, type := 3, pos := _, after := #[{ on := 4, ground := Ground.data }, { on := 8, ground := Ground.data }, { on := 3, ground := Ground.chain }, { on := 3, ground := Ground.guard }], guard := some (3, true) }) rfl (fun K hK => ?_) AllReadyH.nil
              go_simp
              refine (feed_any _ g V HP.out.inv v HV.out (by exact HP.out.hb)).mono ?_
              rintro e wa ⟨rfl, hb1, hk1⟩
              have k1 := hk1.undrew
              have c1 : wa.cell? ⟨bl, off + k2, none⟩ = some (.int .i64 v) := (k1.cell (p := ⟨bl, off + k2, none⟩) (Nat.lt_of_lt_of_le hbl HK.out.size) (one_no (by simp only; omega))).trans c0
              have HBa := Lib.hid hb1
              have HXa := Lib.hid (HP.out.hx.keepS k1 (one_no (fun e => HN.out e.symm)))
              have HKa : Hid (Keep w.heap.size [] w wa) := HK.out.chain1 (Nat.le_refl _) k1 hg'
              have HKK1 := Lib.hid k1
              clear hb1 hk1 k1
              refine hK.out _ _ (by exact c1) (fun hHeld => ?_)
              clear hK K
              (try simp only [Act.put, List.setIfInBounds_toArray, List.set_cons_zero, List.set_cons_succ])
              refine wpAnyH_ready (rs := [14]) (by kernel_rfl) (by simp) ?_
              refine AllReadyH.cons (o := { dst := some 102, op := Op.call { callee := Callee.value (Operand.func 16), args := #[Operand.tmp 11, Operand.tmp 101], argTypes := #[35, 3] }, type := 3, pos := _, after := #[{ on := 13, ground := Ground.data }, { on := 9, ground := Ground.chain }, { on := 3, ground := Ground.guard }], guard := some (3, true) }) rfl (fun K hK => ?_) AllReadyH.nil
              go_simp
              refine (rfeed_any _ x V HP.out.inv v (by exact HXa.out)).mono ?_
              rintro e wb ⟨rfl, hb2, hk2⟩
              have c2 : wb.cell? ⟨bl, off + k2, none⟩ = some (.int .i64 v) := (hk2.cell (p := ⟨bl, off + k2, none⟩) (Nat.lt_of_lt_of_le hbl HKa.out.size) (one_no (by simp only; omega))).trans c1
              have HPb : Hid (P2 wb g x (V.feed v)) := ⟨feed_inv HP.out.inv v, HBa.out.keepS hk2 (one_no HN.out), hb2⟩
              have HKb : Hid (Keep w.heap.size [] w wb) := HKa.out.chain1 (Nat.le_refl _) hk2 hx'
              have HKK2 := Lib.hid hk2
              clear hb2 hk2
              refine hK.out _ _ (by exact c2) (fun hHeld => ?_)
              clear hK K
              (try simp only [Act.put, List.setIfInBounds_toArray, List.set_cons_zero, List.set_cons_succ])
              refine wpAnyH_take (i := 15) (oi := { dst := some 103, op := Op.binOp BinOp.neq 3 (Operand.tmp 97) (Operand.tmp 102) 3, type := 4, pos := _, after := #[{ on := 9, ground := Ground.data }, { on := 14, ground := Ground.data }, { on := 3, ground := Ground.guard }], guard := some (3, true) }) (v := _) rfl (by kernel_rfl) (by kernel_rfl) (by kernel_rfl) (fun _ _ _ h => h) (Or.inl ⟨by rfl, by (intro wS hSw; (try dsimp only at hSw); go_simp; try with_reducible rfl)⟩) (by assumption) ?_
              (try simp only [Act.put, List.setIfInBounds_toArray, List.set_cons_zero, List.set_cons_succ])
              refine wpAnyH_take (i := 16) (oi := { dst := some 104, op := Op.pick (Operand.tmp 91) (Operand.tmp 103) (Operand.const (Value.bool false)), type := 4, pos := _, after := #[{ on := 3, ground := Ground.data }, { on := 15, ground := Ground.data }], guard := none }) (v := _) rfl (by kernel_rfl) (by kernel_rfl) (by kernel_rfl) (fun _ _ _ h => h) (Or.inl ⟨by rfl, by (intro wS hSw; (try dsimp only at hSw); go_simp; try with_reducible rfl)⟩) (by assumption) ?_
              (try simp only [Act.put, List.setIfInBounds_toArray, List.set_cons_zero, List.set_cons_succ])
              refine wpAnyH_take (i := 17) (oi := { dst := some 105, op := Op.move (Operand.tmp 104), type := 4, pos := _, after := #[{ on := 16, ground := Ground.data }, { on := 14, ground := Ground.chain }], guard := none }) (v := _) rfl (by kernel_rfl) (by kernel_rfl) (by kernel_rfl) (fun _ _ _ h => h) (Or.inl ⟨by rfl, by (intro wS hSw; (try dsimp only at hSw); go_simp; try with_reducible rfl)⟩) (by assumption) ?_
              (try simp only [Act.put, List.setIfInBounds_toArray, List.set_cons_zero, List.set_cons_succ])
              refine wpAnyH_take (i := 18) (oi := { dst := some 106, op := Op.move (Operand.tmp 17), type := 3, pos := _, after := #[{ on := 17, ground := Ground.guard }], guard := some (17, false) }) (v := _) rfl (by kernel_rfl) (by kernel_rfl) (by kernel_rfl) (fun _ _ _ h => h) (Or.inl ⟨by rfl, by (intro wS hSw; (try dsimp only at hSw); go_simp; try with_reducible rfl)⟩) (by assumption) ?_
              (try simp only [Act.put, List.setIfInBounds_toArray, List.set_cons_zero, List.set_cons_succ])
              refine wpAnyH_take (i := 19) (oi := { dst := some 107, op := Op.binOp BinOp.rem 3 (Operand.tmp 106) (Operand.const (Value.int IntKind.i64 2)) 3, type := 3, pos := _, after := #[{ on := 18, ground := Ground.data }, { on := 17, ground := Ground.guard }], guard := some (17, false) }) (v := _) rfl (by kernel_rfl) (by kernel_rfl) (by kernel_rfl) (fun _ _ _ h => h) (Or.inl ⟨by rfl, by (intro wS hSw; (try dsimp only at hSw); go_simp; try with_reducible rfl)⟩) (by assumption) ?_
              (try simp only [Act.put, List.setIfInBounds_toArray, List.set_cons_zero, List.set_cons_succ])
              refine wpAnyH_take (i := 20) (oi := { dst := some 108, op := Op.binOp BinOp.eql 3 (Operand.tmp 107) (Operand.const (Value.int IntKind.i64 1)) 3, type := 4, pos := _, after := #[{ on := 19, ground := Ground.data }, { on := 17, ground := Ground.guard }], guard := some (17, false) }) (v := _) rfl (by kernel_rfl) (by kernel_rfl) (by kernel_rfl) (fun _ _ _ h => h) (Or.inl ⟨by rfl, by (intro wS hSw; (try dsimp only at hSw); go_simp; try with_reducible rfl)⟩) (by assumption) ?_
              (try simp only [Act.put, List.setIfInBounds_toArray, List.set_cons_zero, List.set_cons_succ])
              refine wpAnyH_take (i := 21) (oi := { dst := some 109, op := Op.move (Operand.tmp 108), type := 4, pos := _, after := #[{ on := 20, ground := Ground.data }, { on := 17, ground := Ground.chain }, { on := 17, ground := Ground.guard }], guard := some (17, false) }) (v := _) rfl (by kernel_rfl) (by kernel_rfl) (by kernel_rfl) (fun _ _ _ h => h) (Or.inl ⟨by rfl, by (intro wS hSw; (try dsimp only at hSw); go_simp; try with_reducible rfl)⟩) (by assumption) ?_
              (try simp only [Act.put, List.setIfInBounds_toArray, List.set_cons_zero, List.set_cons_succ])
              refine wpAnyH_take (i := 22) (oi := { dst := some 110, op := Op.move (Operand.tmp 15), type := 29, pos := _, after := #[{ on := 21, ground := Ground.guard }], guard := some (21, true) }) (v := undef) rfl (by kernel_rfl) (by kernel_rfl) (by kernel_rfl) (fun _ _ _ h => h) (Or.inr ⟨by rfl, rfl⟩) (by assumption) ?_
              (try simp only [Act.put, List.setIfInBounds_toArray, List.set_cons_zero, List.set_cons_succ])
              refine wpAnyH_take (i := 23) (oi := { dst := some 111, op := Op.move (Operand.tmp 2), type := 28, pos := _, after := #[{ on := 21, ground := Ground.guard }], guard := some (21, true) }) (v := undef) rfl (by kernel_rfl) (by kernel_rfl) (by kernel_rfl) (fun _ _ _ h => h) (Or.inr ⟨by rfl, rfl⟩) (by assumption) ?_
              (try simp only [Act.put, List.setIfInBounds_toArray, List.set_cons_zero, List.set_cons_succ])
              refine wpAnyH_take (i := 24) (oi := { dst := some 112, op := Op.move (Operand.tmp 17), type := 3, pos := _, after := #[{ on := 21, ground := Ground.guard }], guard := some (21, true) }) (v := undef) rfl (by kernel_rfl) (by kernel_rfl) (by kernel_rfl) (fun _ _ _ h => h) (Or.inr ⟨by rfl, rfl⟩) (by assumption) ?_
              (try simp only [Act.put, List.setIfInBounds_toArray, List.set_cons_zero, List.set_cons_succ])
              refine wpAnyH_take (i := 25) (oi := { dst := some 113, op := Op.indexAddr 28 (Operand.tmp 111) (Operand.tmp 112), type := 0, pos := _, after := #[{ on := 23, ground := Ground.data }, { on := 24, ground := Ground.data }, { on := 21, ground := Ground.guard }], guard := some (21, true) }) (v := undef) rfl (by kernel_rfl) (by kernel_rfl) (by kernel_rfl) (fun _ _ _ h => h) (Or.inr ⟨by rfl, rfl⟩) (by assumption) ?_
              (try simp only [Act.put, List.setIfInBounds_toArray, List.set_cons_zero, List.set_cons_succ])
              refine wpAnyH_take (i := 26) (oi := { dst := some 114, op := Op.load 3 (Operand.tmp 113), type := 3, pos := _, after := #[{ on := 25, ground := Ground.data }, { on := 21, ground := Ground.guard }], guard := some (21, true) }) (v := undef) rfl (by kernel_rfl) (by kernel_rfl) (by kernel_rfl) (fun _ _ _ h => h) (Or.inr ⟨by rfl, rfl⟩) (by assumption) ?_
              (try simp only [Act.put, List.setIfInBounds_toArray, List.set_cons_zero, List.set_cons_succ])
              refine wpAnyH_take (i := 27) (oi := { dst := some 115, op := Op.call { callee := Callee.value (Operand.func 15), args := #[Operand.tmp 110, Operand.tmp 114], argTypes := #[29, 3] }, type := 3, pos := _, after := #[{ on := 22, ground := Ground.data }, { on := 26, ground := Ground.data }, { on := 21, ground := Ground.chain }, { on := 21, ground := Ground.guard }], guard := some (21, true) }) (v := undef) rfl (by kernel_rfl) (by kernel_rfl) (by kernel_rfl) (fun _ _ _ h => h) (Or.inr ⟨by rfl, rfl⟩) (by assumption) ?_
              (try simp only [Act.put, List.setIfInBounds_toArray, List.set_cons_zero, List.set_cons_succ])
              refine wpAnyH_take (i := 28) (oi := { dst := some 116, op := Op.move (Operand.tmp 2), type := 28, pos := _, after := #[{ on := 21, ground := Ground.guard }], guard := some (21, true) }) (v := undef) rfl (by kernel_rfl) (by kernel_rfl) (by kernel_rfl) (fun _ _ _ h => h) (Or.inr ⟨by rfl, rfl⟩) (by assumption) ?_
              (try simp only [Act.put, List.setIfInBounds_toArray, List.set_cons_zero, List.set_cons_succ])
              refine wpAnyH_take (i := 29) (oi := { dst := some 117, op := Op.move (Operand.tmp 17), type := 3, pos := _, after := #[{ on := 21, ground := Ground.guard }], guard := some (21, true) }) (v := undef) rfl (by kernel_rfl) (by kernel_rfl) (by kernel_rfl) (fun _ _ _ h => h) (Or.inr ⟨by rfl, rfl⟩) (by assumption) ?_
              (try simp only [Act.put, List.setIfInBounds_toArray, List.set_cons_zero, List.set_cons_succ])
              refine wpAnyH_take (i := 30) (oi := { dst := some 118, op := Op.indexAddr 28 (Operand.tmp 116) (Operand.tmp 117), type := 0, pos := _, after := #[{ on := 28, ground := Ground.data }, { on := 29, ground := Ground.data }, { on := 21, ground := Ground.guard }], guard := some (21, true) }) (v := undef) rfl (by kernel_rfl) (by kernel_rfl) (by kernel_rfl) (fun _ _ _ h => h) (Or.inr ⟨by rfl, rfl⟩) (by assumption) ?_
              (try simp only [Act.put, List.setIfInBounds_toArray, List.set_cons_zero, List.set_cons_succ])
              refine wpAnyH_take (i := 31) (oi := { dst := some 119, op := Op.load 3 (Operand.tmp 118), type := 3, pos := _, after := #[{ on := 30, ground := Ground.data }, { on := 21, ground := Ground.guard }], guard := some (21, true) }) (v := undef) rfl (by kernel_rfl) (by kernel_rfl) (by kernel_rfl) (fun _ _ _ h => h) (Or.inr ⟨by rfl, rfl⟩) (by assumption) ?_
              (try simp only [Act.put, List.setIfInBounds_toArray, List.set_cons_zero, List.set_cons_succ])
              refine wpAnyH_take (i := 32) (oi := { dst := some 120, op := Op.call { callee := Callee.value (Operand.func 16), args := #[Operand.tmp 16, Operand.tmp 119], argTypes := #[35, 3] }, type := 3, pos := _, after := #[{ on := 31, ground := Ground.data }, { on := 27, ground := Ground.chain }, { on := 21, ground := Ground.guard }], guard := some (21, true) }) (v := undef) rfl (by kernel_rfl) (by kernel_rfl) (by kernel_rfl) (fun _ _ _ h => h) (Or.inr ⟨by rfl, rfl⟩) (by assumption) ?_
              (try simp only [Act.put, List.setIfInBounds_toArray, List.set_cons_zero, List.set_cons_succ])
              refine wpAnyH_take (i := 33) (oi := { dst := some 121, op := Op.binOp BinOp.neq 3 (Operand.tmp 115) (Operand.tmp 120) 3, type := 4, pos := _, after := #[{ on := 27, ground := Ground.data }, { on := 32, ground := Ground.data }, { on := 21, ground := Ground.guard }], guard := some (21, true) }) (v := undef) rfl (by kernel_rfl) (by kernel_rfl) (by kernel_rfl) (fun _ _ _ h => h) (Or.inr ⟨by rfl, rfl⟩) (by assumption) ?_
              (try simp only [Act.put, List.setIfInBounds_toArray, List.set_cons_zero, List.set_cons_succ])
              refine wpAnyH_take (i := 34) (oi := { dst := some 122, op := Op.pick (Operand.tmp 109) (Operand.tmp 121) (Operand.const (Value.bool false)), type := 4, pos := _, after := #[{ on := 21, ground := Ground.data }, { on := 33, ground := Ground.data }, { on := 17, ground := Ground.guard }], guard := some (17, false) }) (v := _) rfl (by kernel_rfl) (by kernel_rfl) (by kernel_rfl) (fun _ _ _ h => h) (Or.inl ⟨by rfl, by (intro wS hSw; (try dsimp only at hSw); go_simp; try with_reducible rfl)⟩) (by assumption) ?_
              (try simp only [Act.put, List.setIfInBounds_toArray, List.set_cons_zero, List.set_cons_succ])
              refine wpAnyH_take (i := 35) (oi := { dst := some 123, op := Op.pick (Operand.tmp 105) (Operand.const (Value.bool true)) (Operand.tmp 122), type := 4, pos := _, after := #[{ on := 17, ground := Ground.data }, { on := 34, ground := Ground.data }], guard := none }) (v := _) rfl (by kernel_rfl) (by kernel_rfl) (by kernel_rfl) (fun _ _ _ h => h) (Or.inl ⟨by rfl, by (intro wS hSw; (try dsimp only at hSw); go_simp; try with_reducible rfl)⟩) (by assumption) ?_
              (try simp only [Act.put, List.setIfInBounds_toArray, List.set_cons_zero, List.set_cons_succ])
              refine wpAnyH_done (by kernel_rfl) ?_ _
              have HPc : Hid (P2 wb g1 x1 V') := (HP'.out.keep HKK1.out (one_no (by have := HGG.out; omega)) (one_no (fun e => HGX.out.1 e.symm))).keep HKK2.out (one_no HGX.out.2) (one_no (by have := HXX.out; omega))
              go_wp2_with fail
              go_roundw
              case rel => exact ⟨⟨⟨_, HPb.out⟩, ⟨_, HPc.out⟩, HKb.out⟩, k2 + 1, by omega, by go_num⟩
              case measure => simp [intOf]; omega
            · have f1 : (((k2 : Int) % 2) == 0) = false := beq_eq_false_iff_ne.2 (by omega)
              have f2 : (((k2 : Int) % 2) == 1) = true := beq_iff_eq.2 (by omega)
              have f3 : Int.tmod (k2 : Int) 2 = 1 := by rw [Int.tmod_eq_emod_of_nonneg (by omega)]; omega
              clear he
              go_wp2_with fail
              refine wp_region_held_drew (S := (fun w' => w'.cell? ⟨bl, off + k2, none⟩ = some (.int .i64 v))) (by kernel_rfl) (by exact c0) (fun hHeld => ?_)
              refine wpAnyH_take (i := 0) (oi := { dst := some 88, op := Op.move (Operand.tmp 17), type := 3, pos := _, after := #[], guard := none }) (v := _) rfl (by kernel_rfl) (by kernel_rfl) (by kernel_rfl) (fun _ _ _ h => h) (Or.inl ⟨by rfl, by (intro wS hSw; (try dsimp only at hSw); go_simp; try with_reducible rfl)⟩) (by assumption) ?_
              (try simp only [Act.put, List.setIfInBounds_toArray, List.set_cons_zero, List.set_cons_succ])
              refine wpAnyH_take (i := 1) (oi := { dst := some 89, op := Op.binOp BinOp.rem 3 (Operand.tmp 88) (Operand.const (Value.int IntKind.i64 2)) 3, type := 3, pos := _, after := #[{ on := 0, ground := Ground.data }], guard := none }) (v := _) rfl (by kernel_rfl) (by kernel_rfl) (by kernel_rfl) (fun _ _ _ h => h) (Or.inl ⟨by rfl, by (intro wS hSw; (try dsimp only at hSw); go_simp; try with_reducible rfl)⟩) (by assumption) ?_
              (try simp only [Act.put, List.setIfInBounds_toArray, List.set_cons_zero, List.set_cons_succ])
              refine wpAnyH_take (i := 2) (oi := { dst := some 90, op := Op.binOp BinOp.eql 3 (Operand.tmp 89) (Operand.const (Value.int IntKind.i64 0)) 3, type := 4, pos := _, after := #[{ on := 1, ground := Ground.data }], guard := none }) (v := _) rfl (by kernel_rfl) (by kernel_rfl) (by kernel_rfl) (fun _ _ _ h => h) (Or.inl ⟨by rfl, by (intro wS hSw; (try dsimp only at hSw); go_simp; try with_reducible rfl)⟩) (by assumption) ?_
              (try simp only [Act.put, List.setIfInBounds_toArray, List.set_cons_zero, List.set_cons_succ])
              refine wpAnyH_take (i := 3) (oi := { dst := some 91, op := Op.move (Operand.tmp 90), type := 4, pos := _, after := #[{ on := 2, ground := Ground.data }], guard := none }) (v := _) rfl (by kernel_rfl) (by kernel_rfl) (by kernel_rfl) (fun _ _ _ h => h) (Or.inl ⟨by rfl, by (intro wS hSw; (try dsimp only at hSw); go_simp; try with_reducible rfl)⟩) (by assumption) ?_
              (try simp only [Act.put, List.setIfInBounds_toArray, List.set_cons_zero, List.set_cons_succ])
              refine wpAnyH_take (i := 4) (oi := { dst := some 92, op := Op.move (Operand.tmp 9), type := 29, pos := _, after := #[{ on := 3, ground := Ground.guard }], guard := some (3, true) }) (v := undef) rfl (by kernel_rfl) (by kernel_rfl) (by kernel_rfl) (fun _ _ _ h => h) (Or.inr ⟨by rfl, rfl⟩) (by assumption) ?_
              (try simp only [Act.put, List.setIfInBounds_toArray, List.set_cons_zero, List.set_cons_succ])
              refine wpAnyH_take (i := 5) (oi := { dst := some 93, op := Op.move (Operand.tmp 2), type := 28, pos := _, after := #[{ on := 3, ground := Ground.guard }], guard := some (3, true) }) (v := undef) rfl (by kernel_rfl) (by kernel_rfl) (by kernel_rfl) (fun _ _ _ h => h) (Or.inr ⟨by rfl, rfl⟩) (by assumption) ?_
              (try simp only [Act.put, List.setIfInBounds_toArray, List.set_cons_zero, List.set_cons_succ])
              refine wpAnyH_take (i := 6) (oi := { dst := some 94, op := Op.move (Operand.tmp 17), type := 3, pos := _, after := #[{ on := 3, ground := Ground.guard }], guard := some (3, true) }) (v := undef) rfl (by kernel_rfl) (by kernel_rfl) (by kernel_rfl) (fun _ _ _ h => h) (Or.inr ⟨by rfl, rfl⟩) (by assumption) ?_
              (try simp only [Act.put, List.setIfInBounds_toArray, List.set_cons_zero, List.set_cons_succ])
              refine wpAnyH_take (i := 7) (oi := { dst := some 95, op := Op.indexAddr 28 (Operand.tmp 93) (Operand.tmp 94), type := 0, pos := _, after := #[{ on := 5, ground := Ground.data }, { on := 6, ground := Ground.data }, { on := 3, ground := Ground.guard }], guard := some (3, true) }) (v := undef) rfl (by kernel_rfl) (by kernel_rfl) (by kernel_rfl) (fun _ _ _ h => h) (Or.inr ⟨by rfl, rfl⟩) (by assumption) ?_
              (try simp only [Act.put, List.setIfInBounds_toArray, List.set_cons_zero, List.set_cons_succ])
              refine wpAnyH_take (i := 8) (oi := { dst := some 96, op := Op.load 3 (Operand.tmp 95), type := 3, pos := _, after := #[{ on := 7, ground := Ground.data }, { on := 3, ground := Ground.guard }], guard := some (3, true) }) (v := undef) rfl (by kernel_rfl) (by kernel_rfl) (by kernel_rfl) (fun _ _ _ h => h) (Or.inr ⟨by rfl, rfl⟩) (by assumption) ?_
              (try simp only [Act.put, List.setIfInBounds_toArray, List.set_cons_zero, List.set_cons_succ])
              refine wpAnyH_take (i := 9) (oi := { dst := some 97, op := Op.call { callee := Callee.value (Operand.func 15), args := #[Operand.tmp 92, Operand.tmp 96], argTypes := #[29, 3] }, type := 3, pos := _, after := #[{ on := 4, ground := Ground.data }, { on := 8, ground := Ground.data }, { on := 3, ground := Ground.chain }, { on := 3, ground := Ground.guard }], guard := some (3, true) }) (v := undef) rfl (by kernel_rfl) (by kernel_rfl) (by kernel_rfl) (fun _ _ _ h => h) (Or.inr ⟨by rfl, rfl⟩) (by assumption) ?_
              (try simp only [Act.put, List.setIfInBounds_toArray, List.set_cons_zero, List.set_cons_succ])
              refine wpAnyH_take (i := 10) (oi := { dst := some 98, op := Op.move (Operand.tmp 2), type := 28, pos := _, after := #[{ on := 3, ground := Ground.guard }], guard := some (3, true) }) (v := undef) rfl (by kernel_rfl) (by kernel_rfl) (by kernel_rfl) (fun _ _ _ h => h) (Or.inr ⟨by rfl, rfl⟩) (by assumption) ?_
              (try simp only [Act.put, List.setIfInBounds_toArray, List.set_cons_zero, List.set_cons_succ])
              refine wpAnyH_take (i := 11) (oi := { dst := some 99, op := Op.move (Operand.tmp 17), type := 3, pos := _, after := #[{ on := 3, ground := Ground.guard }], guard := some (3, true) }) (v := undef) rfl (by kernel_rfl) (by kernel_rfl) (by kernel_rfl) (fun _ _ _ h => h) (Or.inr ⟨by rfl, rfl⟩) (by assumption) ?_
              (try simp only [Act.put, List.setIfInBounds_toArray, List.set_cons_zero, List.set_cons_succ])
              refine wpAnyH_take (i := 12) (oi := { dst := some 100, op := Op.indexAddr 28 (Operand.tmp 98) (Operand.tmp 99), type := 0, pos := _, after := #[{ on := 10, ground := Ground.data }, { on := 11, ground := Ground.data }, { on := 3, ground := Ground.guard }], guard := some (3, true) }) (v := undef) rfl (by kernel_rfl) (by kernel_rfl) (by kernel_rfl) (fun _ _ _ h => h) (Or.inr ⟨by rfl, rfl⟩) (by assumption) ?_
              (try simp only [Act.put, List.setIfInBounds_toArray, List.set_cons_zero, List.set_cons_succ])
              refine wpAnyH_take (i := 13) (oi := { dst := some 101, op := Op.load 3 (Operand.tmp 100), type := 3, pos := _, after := #[{ on := 12, ground := Ground.data }, { on := 3, ground := Ground.guard }], guard := some (3, true) }) (v := undef) rfl (by kernel_rfl) (by kernel_rfl) (by kernel_rfl) (fun _ _ _ h => h) (Or.inr ⟨by rfl, rfl⟩) (by assumption) ?_
              (try simp only [Act.put, List.setIfInBounds_toArray, List.set_cons_zero, List.set_cons_succ])
              refine wpAnyH_take (i := 14) (oi := { dst := some 102, op := Op.call { callee := Callee.value (Operand.func 16), args := #[Operand.tmp 11, Operand.tmp 101], argTypes := #[35, 3] }, type := 3, pos := _, after := #[{ on := 13, ground := Ground.data }, { on := 9, ground := Ground.chain }, { on := 3, ground := Ground.guard }], guard := some (3, true) }) (v := undef) rfl (by kernel_rfl) (by kernel_rfl) (by kernel_rfl) (fun _ _ _ h => h) (Or.inr ⟨by rfl, rfl⟩) (by assumption) ?_
              (try simp only [Act.put, List.setIfInBounds_toArray, List.set_cons_zero, List.set_cons_succ])
              refine wpAnyH_take (i := 15) (oi := { dst := some 103, op := Op.binOp BinOp.neq 3 (Operand.tmp 97) (Operand.tmp 102) 3, type := 4, pos := _, after := #[{ on := 9, ground := Ground.data }, { on := 14, ground := Ground.data }, { on := 3, ground := Ground.guard }], guard := some (3, true) }) (v := undef) rfl (by kernel_rfl) (by kernel_rfl) (by kernel_rfl) (fun _ _ _ h => h) (Or.inr ⟨by rfl, rfl⟩) (by assumption) ?_
              (try simp only [Act.put, List.setIfInBounds_toArray, List.set_cons_zero, List.set_cons_succ])
              refine wpAnyH_take (i := 16) (oi := { dst := some 104, op := Op.pick (Operand.tmp 91) (Operand.tmp 103) (Operand.const (Value.bool false)), type := 4, pos := _, after := #[{ on := 3, ground := Ground.data }, { on := 15, ground := Ground.data }], guard := none }) (v := _) rfl (by kernel_rfl) (by kernel_rfl) (by kernel_rfl) (fun _ _ _ h => h) (Or.inl ⟨by rfl, by (intro wS hSw; (try dsimp only at hSw); go_simp; try with_reducible rfl)⟩) (by assumption) ?_
              (try simp only [Act.put, List.setIfInBounds_toArray, List.set_cons_zero, List.set_cons_succ])
              refine wpAnyH_take (i := 17) (oi := { dst := some 105, op := Op.move (Operand.tmp 104), type := 4, pos := _, after := #[{ on := 16, ground := Ground.data }, { on := 14, ground := Ground.chain }], guard := none }) (v := _) rfl (by kernel_rfl) (by kernel_rfl) (by kernel_rfl) (fun _ _ _ h => h) (Or.inl ⟨by rfl, by (intro wS hSw; (try dsimp only at hSw); go_simp; try with_reducible rfl)⟩) (by assumption) ?_
              (try simp only [Act.put, List.setIfInBounds_toArray, List.set_cons_zero, List.set_cons_succ])
              refine wpAnyH_take (i := 18) (oi := { dst := some 106, op := Op.move (Operand.tmp 17), type := 3, pos := _, after := #[{ on := 17, ground := Ground.guard }], guard := some (17, false) }) (v := _) rfl (by kernel_rfl) (by kernel_rfl) (by kernel_rfl) (fun _ _ _ h => h) (Or.inl ⟨by rfl, by (intro wS hSw; (try dsimp only at hSw); go_simp; try with_reducible rfl)⟩) (by assumption) ?_
              (try simp only [Act.put, List.setIfInBounds_toArray, List.set_cons_zero, List.set_cons_succ])
              refine wpAnyH_take (i := 19) (oi := { dst := some 107, op := Op.binOp BinOp.rem 3 (Operand.tmp 106) (Operand.const (Value.int IntKind.i64 2)) 3, type := 3, pos := _, after := #[{ on := 18, ground := Ground.data }, { on := 17, ground := Ground.guard }], guard := some (17, false) }) (v := _) rfl (by kernel_rfl) (by kernel_rfl) (by kernel_rfl) (fun _ _ _ h => h) (Or.inl ⟨by rfl, by (intro wS hSw; (try dsimp only at hSw); go_simp; try with_reducible rfl)⟩) (by assumption) ?_
              (try simp only [Act.put, List.setIfInBounds_toArray, List.set_cons_zero, List.set_cons_succ])
              refine wpAnyH_take (i := 20) (oi := { dst := some 108, op := Op.binOp BinOp.eql 3 (Operand.tmp 107) (Operand.const (Value.int IntKind.i64 1)) 3, type := 4, pos := _, after := #[{ on := 19, ground := Ground.data }, { on := 17, ground := Ground.guard }], guard := some (17, false) }) (v := _) rfl (by kernel_rfl) (by kernel_rfl) (by kernel_rfl) (fun _ _ _ h => h) (Or.inl ⟨by rfl, by (intro wS hSw; (try dsimp only at hSw); go_simp; try with_reducible rfl)⟩) (by assumption) ?_
              (try simp only [Act.put, List.setIfInBounds_toArray, List.set_cons_zero, List.set_cons_succ])
              refine wpAnyH_take (i := 21) (oi := { dst := some 109, op := Op.move (Operand.tmp 108), type := 4, pos := _, after := #[{ on := 20, ground := Ground.data }, { on := 17, ground := Ground.chain }, { on := 17, ground := Ground.guard }], guard := some (17, false) }) (v := _) rfl (by kernel_rfl) (by kernel_rfl) (by kernel_rfl) (fun _ _ _ h => h) (Or.inl ⟨by rfl, by (intro wS hSw; (try dsimp only at hSw); go_simp; try with_reducible rfl)⟩) (by assumption) ?_
              (try simp only [Act.put, List.setIfInBounds_toArray, List.set_cons_zero, List.set_cons_succ])
              refine wpAnyH_take (i := 22) (oi := { dst := some 110, op := Op.move (Operand.tmp 15), type := 29, pos := _, after := #[{ on := 21, ground := Ground.guard }], guard := some (21, true) }) (v := _) rfl (by kernel_rfl) (by kernel_rfl) (by kernel_rfl) (fun _ _ _ h => h) (Or.inl ⟨by rfl, by (intro wS hSw; (try dsimp only at hSw); go_simp; try with_reducible rfl)⟩) (by assumption) ?_
              (try simp only [Act.put, List.setIfInBounds_toArray, List.set_cons_zero, List.set_cons_succ])
              refine wpAnyH_take (i := 23) (oi := { dst := some 111, op := Op.move (Operand.tmp 2), type := 28, pos := _, after := #[{ on := 21, ground := Ground.guard }], guard := some (21, true) }) (v := _) rfl (by kernel_rfl) (by kernel_rfl) (by kernel_rfl) (fun _ _ _ h => h) (Or.inl ⟨by rfl, by (intro wS hSw; (try dsimp only at hSw); go_simp; try with_reducible rfl)⟩) (by assumption) ?_
              (try simp only [Act.put, List.setIfInBounds_toArray, List.set_cons_zero, List.set_cons_succ])
              refine wpAnyH_take (i := 24) (oi := { dst := some 112, op := Op.move (Operand.tmp 17), type := 3, pos := _, after := #[{ on := 21, ground := Ground.guard }], guard := some (21, true) }) (v := _) rfl (by kernel_rfl) (by kernel_rfl) (by kernel_rfl) (fun _ _ _ h => h) (Or.inl ⟨by rfl, by (intro wS hSw; (try dsimp only at hSw); go_simp; try with_reducible rfl)⟩) (by assumption) ?_
              (try simp only [Act.put, List.setIfInBounds_toArray, List.set_cons_zero, List.set_cons_succ])
              refine wpAnyH_take (i := 25) (oi := { dst := some 113, op := Op.indexAddr 28 (Operand.tmp 111) (Operand.tmp 112), type := 0, pos := _, after := #[{ on := 23, ground := Ground.data }, { on := 24, ground := Ground.data }, { on := 21, ground := Ground.guard }], guard := some (21, true) }) (v := _) rfl (by kernel_rfl) (by kernel_rfl) (by kernel_rfl) (fun _ _ _ h => h) (Or.inl ⟨by rfl, by (intro wS hSw; (try dsimp only at hSw); go_simp; try with_reducible rfl)⟩) (by assumption) ?_
              (try simp only [Act.put, List.setIfInBounds_toArray, List.set_cons_zero, List.set_cons_succ])
              refine wpAnyH_take (i := 26) (oi := { dst := some 114, op := Op.load 3 (Operand.tmp 113), type := 3, pos := _, after := #[{ on := 25, ground := Ground.data }, { on := 21, ground := Ground.guard }], guard := some (21, true) }) (v := _) rfl (by kernel_rfl) (by kernel_rfl) (by kernel_rfl) (fun _ _ _ h => h) (Or.inl ⟨by rfl, by (intro wS hSw; (try dsimp only at hSw); go_simp; try with_reducible rfl)⟩) (by assumption) ?_
              (try simp only [Act.put, List.setIfInBounds_toArray, List.set_cons_zero, List.set_cons_succ])
              refine wpAnyH_take (i := 28) (oi := { dst := some 116, op := Op.move (Operand.tmp 2), type := 28, pos := _, after := #[{ on := 21, ground := Ground.guard }], guard := some (21, true) }) (v := _) rfl (by kernel_rfl) (by kernel_rfl) (by kernel_rfl) (fun _ _ _ h => h) (Or.inl ⟨by rfl, by (intro wS hSw; (try dsimp only at hSw); go_simp; try with_reducible rfl)⟩) (by assumption) ?_
              (try simp only [Act.put, List.setIfInBounds_toArray, List.set_cons_zero, List.set_cons_succ])
              refine wpAnyH_take (i := 29) (oi := { dst := some 117, op := Op.move (Operand.tmp 17), type := 3, pos := _, after := #[{ on := 21, ground := Ground.guard }], guard := some (21, true) }) (v := _) rfl (by kernel_rfl) (by kernel_rfl) (by kernel_rfl) (fun _ _ _ h => h) (Or.inl ⟨by rfl, by (intro wS hSw; (try dsimp only at hSw); go_simp; try with_reducible rfl)⟩) (by assumption) ?_
              (try simp only [Act.put, List.setIfInBounds_toArray, List.set_cons_zero, List.set_cons_succ])
              refine wpAnyH_take (i := 30) (oi := { dst := some 118, op := Op.indexAddr 28 (Operand.tmp 116) (Operand.tmp 117), type := 0, pos := _, after := #[{ on := 28, ground := Ground.data }, { on := 29, ground := Ground.data }, { on := 21, ground := Ground.guard }], guard := some (21, true) }) (v := _) rfl (by kernel_rfl) (by kernel_rfl) (by kernel_rfl) (fun _ _ _ h => h) (Or.inl ⟨by rfl, by (intro wS hSw; (try dsimp only at hSw); go_simp; try with_reducible rfl)⟩) (by assumption) ?_
              (try simp only [Act.put, List.setIfInBounds_toArray, List.set_cons_zero, List.set_cons_succ])
              refine wpAnyH_take (i := 31) (oi := { dst := some 119, op := Op.load 3 (Operand.tmp 118), type := 3, pos := _, after := #[{ on := 30, ground := Ground.data }, { on := 21, ground := Ground.guard }], guard := some (21, true) }) (v := _) rfl (by kernel_rfl) (by kernel_rfl) (by kernel_rfl) (fun _ _ _ h => h) (Or.inl ⟨by rfl, by (intro wS hSw; (try dsimp only at hSw); go_simp; try with_reducible rfl)⟩) (by assumption) ?_
              (try simp only [Act.put, List.setIfInBounds_toArray, List.set_cons_zero, List.set_cons_succ])
              refine wpAnyH_ready (rs := [27]) (by kernel_rfl) (by simp) ?_
              refine AllReadyH.cons (o := { dst := some 115, op := Op.call { callee := Callee.value (Operand.func 15), args := #[Operand.tmp 110, Operand.tmp 114], argTypes := #[29, 3] }, type := 3, pos := _, after := #[{ on := 22, ground := Ground.data }, { on := 26, ground := Ground.data }, { on := 21, ground := Ground.chain }, { on := 21, ground := Ground.guard }], guard := some (21, true) }) rfl (fun K hK => ?_) AllReadyH.nil
              go_simp
              refine (feed_any _ g1 V' HP'.out.inv v HV.out (by exact HP'.out.hb)).mono ?_
              rintro e wa ⟨rfl, hb1, hk1⟩
              have k1 := hk1.undrew
              have c1 : wa.cell? ⟨bl, off + k2, none⟩ = some (.int .i64 v) := (k1.cell (p := ⟨bl, off + k2, none⟩) (Nat.lt_of_lt_of_le hbl HK.out.size) (one_no (by simp only; omega))).trans c0
              have HBa := Lib.hid hb1
              have HXa := Lib.hid (HP'.out.hx.keepS k1 (one_no (fun e => HN'.out e.symm)))
              have HKa : Hid (Keep w.heap.size [] w wa) := HK.out.chain1 (Nat.le_refl _) k1 hg1'
              have HKK1 := Lib.hid k1
              clear hb1 hk1 k1
              refine hK.out _ _ (by exact c1) (fun hHeld => ?_)
              clear hK K
              (try simp only [Act.put, List.setIfInBounds_toArray, List.set_cons_zero, List.set_cons_succ])
              refine wpAnyH_ready (rs := [32]) (by kernel_rfl) (by simp) ?_
              refine AllReadyH.cons (o := { dst := some 120, op := Op.call { callee := Callee.value (Operand.func 16), args := #[Operand.tmp 16, Operand.tmp 119], argTypes := #[35, 3] }, type := 3, pos := _, after := #[{ on := 31, ground := Ground.data }, { on := 27, ground := Ground.chain }, { on := 21, ground := Ground.guard }], guard := some (21, true) }) rfl (fun K hK => ?_) AllReadyH.nil
              go_simp
              refine (rfeed_any _ x1 V' HP'.out.inv v (by exact HXa.out)).mono ?_
              rintro e wb ⟨rfl, hb2, hk2⟩
              have c2 : wb.cell? ⟨bl, off + k2, none⟩ = some (.int .i64 v) := (hk2.cell (p := ⟨bl, off + k2, none⟩) (Nat.lt_of_lt_of_le hbl HKa.out.size) (one_no (by simp only; omega))).trans c1
              have HPb : Hid (P2 wb g1 x1 (V'.feed v)) := ⟨feed_inv HP'.out.inv v, HBa.out.keepS hk2 (one_no HN'.out), hb2⟩
              have HKb : Hid (Keep w.heap.size [] w wb) := HKa.out.chain1 (Nat.le_refl _) hk2 hx1
              have HKK2 := Lib.hid hk2
              clear hb2 hk2
              refine hK.out _ _ (by exact c2) (fun hHeld => ?_)
              clear hK K
              (try simp only [Act.put, List.setIfInBounds_toArray, List.set_cons_zero, List.set_cons_succ])
              refine wpAnyH_take (i := 33) (oi := { dst := some 121, op := Op.binOp BinOp.neq 3 (Operand.tmp 115) (Operand.tmp 120) 3, type := 4, pos := _, after := #[{ on := 27, ground := Ground.data }, { on := 32, ground := Ground.data }, { on := 21, ground := Ground.guard }], guard := some (21, true) }) (v := _) rfl (by kernel_rfl) (by kernel_rfl) (by kernel_rfl) (fun _ _ _ h => h) (Or.inl ⟨by rfl, by (intro wS hSw; (try dsimp only at hSw); go_simp; try with_reducible rfl)⟩) (by assumption) ?_
              (try simp only [Act.put, List.setIfInBounds_toArray, List.set_cons_zero, List.set_cons_succ])
              refine wpAnyH_take (i := 34) (oi := { dst := some 122, op := Op.pick (Operand.tmp 109) (Operand.tmp 121) (Operand.const (Value.bool false)), type := 4, pos := _, after := #[{ on := 21, ground := Ground.data }, { on := 33, ground := Ground.data }, { on := 17, ground := Ground.guard }], guard := some (17, false) }) (v := _) rfl (by kernel_rfl) (by kernel_rfl) (by kernel_rfl) (fun _ _ _ h => h) (Or.inl ⟨by rfl, by (intro wS hSw; (try dsimp only at hSw); go_simp; try with_reducible rfl)⟩) (by assumption) ?_
              (try simp only [Act.put, List.setIfInBounds_toArray, List.set_cons_zero, List.set_cons_succ])
              refine wpAnyH_take (i := 35) (oi := { dst := some 123, op := Op.pick (Operand.tmp 105) (Operand.const (Value.bool true)) (Operand.tmp 122), type := 4, pos := _, after := #[{ on := 17, ground := Ground.data }, { on := 34, ground := Ground.data }], guard := none }) (v := _) rfl (by kernel_rfl) (by kernel_rfl) (by kernel_rfl) (fun _ _ _ h => h) (Or.inl ⟨by rfl, by (intro wS hSw; (try dsimp only at hSw); go_simp; try with_reducible rfl)⟩) (by assumption) ?_
              (try simp only [Act.put, List.setIfInBounds_toArray, List.set_cons_zero, List.set_cons_succ])
              refine wpAnyH_done (by kernel_rfl) ?_ _
              have HPc : Hid (P2 wb g x V) := (HP.out.keep HKK1.out (one_no (by have := HGG.out; omega)) (one_no (fun e => HGX.out.2 e.symm))).keep HKK2.out (one_no HGX.out.1) (one_no (by have := HXX.out; omega))
              go_wp2_with fail
              go_roundw
              case rel => exact ⟨⟨⟨_, HPc.out⟩, ⟨_, HPb.out⟩, HKb.out⟩, k2 + 1, by omega, by go_num⟩
              case measure => simp [intOf]; omega
          · have e1 : wr.cell? ⟨x, 6, none⟩ = some (.int .i64 V.c0) := HP.out.hx.cell 6
            have e2 : wr.cell? ⟨x1, 6, none⟩ = some (.int .i64 V'.c0) := HP'.out.hx.cell 6
            go_wp2_with fail
            go_region_held3 (fun w' => w'.cell? ⟨x, 6, none⟩ = some (.int .i64 V.c0) ∧ w'.cell? ⟨x1, 6, none⟩ = some (.int .i64 V'.c0))
              (first | exact ⟨e1, e2⟩ | exact ⟨e3, e4⟩)
              (first
                | (go_at_call_of 17 (bptr g)
                   refine (count_0 _ g V (by exact HP.out.hb)).mono ?_
                   rintro e w' ⟨rfl, rfl⟩)
                | (go_at_call_of 17 (bptr g1)
                   refine (count_0 _ g1 V' (by exact HP'.out.hb)).mono ?_
                   rintro e w' ⟨rfl, rfl⟩)
                | (go_at_call 12
                   refine (lives_any _).mono ?_
                   rintro e w5 ⟨rfl, hk⟩
                   have K5 : Hid (Keep w.heap.size [] w w5) := HK.out.chain0 (Nat.le_refl _) hk.undrew
                   have e3 : w5.cell? ⟨x, 6, none⟩ = some (.int .i64 V.c0) := (HP.out.hx.keepS hk.undrew (by simp)).cell 6
                   have e4 : w5.cell? ⟨x1, 6, none⟩ = some (.int .i64 V'.c0) := (HP'.out.hx.keepS hk.undrew (by simp)).cell 6
                   clear hk))
            go_wp2_with fail
            go_ret
            exact ⟨rfl, K5.out⟩
end Go.Proofs.Ytmefdiidgnpklaa
