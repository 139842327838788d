/- The ledger's play: its walk. -/
import Derived.Test.YthpngafglljgnaaLPl
namespace Go.Proofs.Ythpngafglljgnaa
set_option linter.unusedVariables false
set_option linter.unusedSimpArgs false
open Go.RowKit
def PlRel (w : World) (g3 gr : Nat) (k : Nat) (u : Value) (W : World) : Prop := ∃ gx l L M, u = bptr gx ∧ PW w W g3 gr gx l L M ∧ RelL L M ∧ ML k M
set_option maxRecDepth 100000 in
set_option maxHeartbeats 16000000 in
theorem play_any (w : World) (A : Option Addr) (n c : Nat) (la : List Ac) (hnc : n ≤ c) (hcm : c ≤ maxLen) (hv : Acts w A n la) :
    Calls Try.prog 16 #[.slice A n c] w (PlayPost w) := by
  have hcm' : (c : Int) ≤ 9223372036854775807 := by unfold maxLen at hcm; omega
  have hnc' : (n : Int) ≤ (c : Int) := by omega
  have HV := Lib.hid hv
  have HN := Lib.hid hv.1
  clear hv
  obtain ⟨W0, hW0⟩ : ∃ W0, W0 = w.alloc (.cells zR.toArray TR) := ⟨_, rfl⟩
  have B3 : Hid (Blk W0 w.heap.size TR zR.toArray) := Lib.hid (by rw [hW0]; exact Blk.new w _ _)
  have K0 : Hid (Keep w.heap.size [] w W0) := Lib.hid (by rw [hW0]; exact (Keep.refl _ _ w).alloc (Nat.le_refl _) _)
  go_enter Try.func16, Try.ntmps16
  go_upto_region 1 with fail
  change Code.wp _ _ _ _ (w.alloc (.cells zR.toArray TR))
  rw [← hW0]
  clear hW0
  go_wp2_with fail
  refine (new_any _).mono ?_
  rintro e w1 ⟨g0, rfl, hg, hl, hk⟩
  have B31 := Lib.hid (B3.out.keepS hk (by simp))
  have K1 := Lib.hid (K0.out.chain0 (Nat.le_refl _) hk)
  have HL1 := Lib.hid hl
  have HG : Hid (w.heap.size ≤ g0) := Lib.hid (by rw [hg]; exact K0.out.size)
  clear hg hl hk B3 K0
  go_upto_region 3 with fail
  change Code.wp _ _ _ _ (w1.alloc (.cells zR.toArray TR))
  obtain ⟨W2, hW2⟩ : ∃ W2, W2 = w1.alloc (.cells zR.toArray TR) := ⟨_, rfl⟩
  have P0 : Hid (PW w W2 w.heap.size w1.heap.size g0 zR zeroL (List.replicate 16 ⟨0, []⟩)) := Lib.hid (by
    rw [hW2]
    exact ⟨K1.out.alloc K1.out.size _, Nat.le_refl _, K1.out.size, HG.out, B31.out.alloc _, Blk.new _ _ _, by have := B31.out.lt; omega, rv0 _, HL1.out.alloc _⟩)
  rw [← hW2]
  clear hW2 B31 K1 HL1 HG
  obtain ⟨g3, hg3⟩ : ∃ g, g = w.heap.size := ⟨_, rfl⟩
  obtain ⟨gr, hgr⟩ : ∃ g, g = w1.heap.size := ⟨_, rfl⟩
  rw [← hgr]
  rw [← hgr, show PW w W2 w.heap.size gr g0 zR zeroL (List.replicate 16 ⟨0, []⟩) = PW w W2 g3 gr g0 zR zeroL (List.replicate 16 ⟨0, []⟩) by rw [hg3]] at P0
  rw [← hg3]
  clear hg3 hgr
  go_wp2_with fail
  go_loopw [5, 7] (fun u i wr => ∃ k : Nat, k ≤ n ∧ k ≤ 100 ∧ i = .int .i64 k ∧ PlRel w g3 gr k u wr) (fun _ i _ => 100 - (intOf i).toNat)
  case atStart => exact ⟨0, Nat.zero_le _, by omega, rfl, g0, zR, zeroL, List.replicate 16 ⟨0, []⟩, rfl, P0.out, rel0, fun x hx => by rw [List.eq_of_mem_replicate hx]; simp⟩
  case round =>
    clear P0
    obtain ⟨k, hk, hk100, rfl, gx, l, L, M, rfl, hp, hrl, hml⟩ := hrel
    have P0 := Lib.hid hp
    have REL := Lib.hid hrl
    have HML := Lib.hid hml
    clear hp hrl hml
    by_cases hlt : k < n ∧ k < 100
    · obtain ⟨hlt, hlt1⟩ := hlt
      obtain ⟨b0, o0, hAeq, hb, hc⟩ := HV.out.2 (by omega)
      obtain ⟨a, hak⟩ : ∃ a, la[k]? = some a := ⟨la[k]'(by have := HN.out; omega), List.getElem?_eq_getElem _⟩
      obtain ⟨d0, d1, d2⟩ := (hc k a hak).keep P0.out.keep hb (by simp)
      subst hAeq
      have hkn : (k : Int) < (n : Int) := by omega
      have hk1' : (k : Int) < 100 := by omega
      clear hc hb hak
      go_upto_region 7 with fail
      have k1 : Keep wr.heap.size [] wr (wr.alloc (.cells #[.int .i64 a.k, .int .i64 a.s, .int .i64 a.n] TA)) := (Keep.refl _ _ wr).alloc (Nat.le_refl _) _
      have P1 := Lib.hid (P0.out.other k1)
      have A1 : Hid (ActB (wr.alloc (.cells #[.int .i64 a.k, .int .i64 a.s, .int .i64 a.n] TA)) wr.heap.size a) := Lib.hid (Blk.new wr _ _)
      obtain ⟨W1, hW1⟩ : ∃ W1, W1 = wr.alloc (.cells #[.int .i64 a.k, .int .i64 a.s, .int .i64 a.n] TA) := ⟨_, rfl⟩
      rw [← hW1] at P1 A1 ⊢
      clear hW1 d0 d1 d2 k1
      obtain ⟨ga, hga⟩ : ∃ g, g = wr.heap.size := ⟨_, rfl⟩
      rw [← hga] at A1 ⊢
      clear hga P0
      have INF := Lib.hid (rv_info P1.out.rv)
      have MBk : Hid (MB k M) := Lib.hid (REL.out.mg HML.out).b
      have P1d := Lib.hid P1.out.drew
      have A1d := Lib.hid A1.out.drew
      obtain ⟨c0, c1, c2⟩ := A1.out.cells
      have hl32 := P1.out.rv.len
      have HL32 := Lib.hid hl32
      clear hl32
      by_cases hk1 : a.k = 1
      · have q1 : (a.k == 1) = true := beq_iff_eq.2 hk1
        clear hk1
        obtain ⟨b, hbm⟩ : ∃ b, seenM M a.s a.n = b := ⟨_, rfl⟩
        have HBM := Lib.hid hbm
        have HBL := Lib.hid ((REL.out.seen a.s a.n).trans hbm)
        have hbb : (b != b) = false := bne_self_eq_false b
        clear hbm
        go_wp2_with fail
        refine wp_region_held_drew (S := (fun w' => w'.cell? ⟨ga, 1, none⟩ = some (.int .i64 a.s) ∧ w'.cell? ⟨ga, 2, none⟩ = some (.int .i64 a.n) ∧ w'.rangeAt gr 0 l)) (by kernel_rfl) (by exact P1.out.drew.ps A1.out.drew) (fun hHeld => ?_)
        refine wpAnyH_take (i := 0) (oi := { dst := some 46, op := Op.move (Operand.tmp 5), type := 24, pos := _, after := #[], guard := none }) (v := _) rfl (by kernel_rfl) (by kernel_rfl) (by kernel_rfl) (fun _ _ _ h => h) (Or.inl ⟨by rfl, by (intro wS hSw; (try dsimp only at hSw); go_simp; try with_reducible rfl)⟩) (by assumption) ?_
        (try simp only [Act.put, List.setIfInBounds_toArray, List.set_cons_zero, List.set_cons_succ])
        refine wpAnyH_take (i := 1) (oi := { dst := some 47, op := Op.fieldAddr 29 (Operand.tmp 8) 1, type := 0, pos := _, after := #[], guard := none }) (v := _) rfl (by kernel_rfl) (by kernel_rfl) (by kernel_rfl) (fun _ _ _ h => h) (Or.inl ⟨by rfl, by (intro wS hSw; (try dsimp only at hSw); go_simp; try with_reducible rfl)⟩) (by assumption) ?_
        (try simp only [Act.put, List.setIfInBounds_toArray, List.set_cons_zero, List.set_cons_succ])
        refine wpAnyH_take (i := 2) (oi := { dst := some 48, op := Op.load 3 (Operand.tmp 47), type := 3, pos := _, after := #[{ on := 1, ground := Ground.data }], guard := none }) (v := _) rfl (by kernel_rfl) (by kernel_rfl) (by kernel_rfl) (fun _ _ _ h => h) (Or.inl ⟨by rfl, by (intro wS hSw; (try dsimp only at hSw); go_simp; try with_reducible rfl)⟩) (by assumption) ?_
        (try simp only [Act.put, List.setIfInBounds_toArray, List.set_cons_zero, List.set_cons_succ])
        refine wpAnyH_take (i := 3) (oi := { dst := some 49, op := Op.fieldAddr 29 (Operand.tmp 8) 2, type := 0, pos := _, after := #[], guard := none }) (v := _) rfl (by kernel_rfl) (by kernel_rfl) (by kernel_rfl) (fun _ _ _ h => h) (Or.inl ⟨by rfl, by (intro wS hSw; (try dsimp only at hSw); go_simp; try with_reducible rfl)⟩) (by assumption) ?_
        (try simp only [Act.put, List.setIfInBounds_toArray, List.set_cons_zero, List.set_cons_succ])
        refine wpAnyH_take (i := 4) (oi := { dst := some 50, op := Op.load 3 (Operand.tmp 49), type := 3, pos := _, after := #[{ on := 3, ground := Ground.data }], guard := none }) (v := _) rfl (by kernel_rfl) (by kernel_rfl) (by kernel_rfl) (fun _ _ _ h => h) (Or.inl ⟨by rfl, by (intro wS hSw; (try dsimp only at hSw); go_simp; try with_reducible rfl)⟩) (by assumption) ?_
        (try simp only [Act.put, List.setIfInBounds_toArray, List.set_cons_zero, List.set_cons_succ])
        refine wpAnyH_take (i := 6) (oi := { dst := some 52, op := Op.load 40 (Operand.tmp 6), type := 40, pos := _, after := #[], guard := none }) (v := _) rfl (by kernel_rfl) (by kernel_rfl) (by kernel_rfl) (fun _ _ _ h => h) (yieldsIf_load_mid (by rfl) TR (.tmp 6) rfl gr 0 (by rfl) l _ (fun wS hSw => hSw.2.2) Try.underlying40 rfl (by exact INF.out)) (by assumption) ?_
        (try simp only [Act.put, List.setIfInBounds_toArray, List.set_cons_zero, List.set_cons_succ])
        refine wpAnyH_take (i := 7) (oi := { dst := some 53, op := Op.fieldAddr 29 (Operand.tmp 8) 1, type := 0, pos := _, after := #[], guard := none }) (v := _) rfl (by kernel_rfl) (by kernel_rfl) (by kernel_rfl) (fun _ _ _ h => h) (Or.inl ⟨by rfl, by (intro wS hSw; (try dsimp only at hSw); go_simp; try with_reducible rfl)⟩) (by assumption) ?_
        (try simp only [Act.put, List.setIfInBounds_toArray, List.set_cons_zero, List.set_cons_succ])
        refine wpAnyH_take (i := 8) (oi := { dst := some 54, op := Op.load 3 (Operand.tmp 53), type := 3, pos := _, after := #[{ on := 7, ground := Ground.data }], guard := none }) (v := _) rfl (by kernel_rfl) (by kernel_rfl) (by kernel_rfl) (fun _ _ _ h => h) (Or.inl ⟨by rfl, by (intro wS hSw; (try dsimp only at hSw); go_simp; try with_reducible rfl)⟩) (by assumption) ?_
        (try simp only [Act.put, List.setIfInBounds_toArray, List.set_cons_zero, List.set_cons_succ])
        refine wpAnyH_take (i := 9) (oi := { dst := some 55, op := Op.fieldAddr 29 (Operand.tmp 8) 2, type := 0, pos := _, after := #[], guard := none }) (v := _) rfl (by kernel_rfl) (by kernel_rfl) (by kernel_rfl) (fun _ _ _ h => h) (Or.inl ⟨by rfl, by (intro wS hSw; (try dsimp only at hSw); go_simp; try with_reducible rfl)⟩) (by assumption) ?_
        (try simp only [Act.put, List.setIfInBounds_toArray, List.set_cons_zero, List.set_cons_succ])
        refine wpAnyH_take (i := 10) (oi := { dst := some 56, op := Op.load 3 (Operand.tmp 55), type := 3, pos := _, after := #[{ on := 9, ground := Ground.data }], guard := none }) (v := _) rfl (by kernel_rfl) (by kernel_rfl) (by kernel_rfl) (fun _ _ _ h => h) (Or.inl ⟨by rfl, by (intro wS hSw; (try dsimp only at hSw); go_simp; try with_reducible rfl)⟩) (by assumption) ?_
        (try simp only [Act.put, List.setIfInBounds_toArray, List.set_cons_zero, List.set_cons_succ])
        refine wpAnyH_ready (rs := [5]) (by kernel_rfl) (by simp) ?_
        refine (AllReadyH.cons (o := { dst := some 51, op := Op.call { callee := Callee.value (Operand.func 11), args := #[Operand.tmp 46, Operand.tmp 48, Operand.tmp 50], argTypes := #[24, 3, 3] }, type := 4, pos := _, after := #[{ on := 0, ground := Ground.data }, { on := 2, ground := Ground.data }, { on := 4, ground := Ground.data }], guard := none }) rfl (fun K hK => ?_) AllReadyH.nil)
        go_simp
        refine (seenl_any _ gx L a.s a.n b HBL.out (by exact P1.out.led.drew)).mono ?_
        rintro e w2 ⟨rfl, hk⟩
        have Pw2 := Lib.hid (P1d.out.other hk)
        have Aw2 := Lib.hid (A1d.out.other hk)
        clear hk
        refine hK.out _ _ (by exact Pw2.out.ps Aw2.out) (fun hHeld => ?_)
        clear hK K
        (try simp only [Act.put, List.setIfInBounds_toArray, List.set_cons_zero, List.set_cons_succ])
        refine wpAnyH_ready (rs := [11]) (by kernel_rfl) (by simp) ?_
        refine (AllReadyH.cons (o := { dst := some 57, op := Op.call { callee := Callee.value (Operand.func 31), args := #[Operand.tmp 52, Operand.tmp 54, Operand.tmp 56], argTypes := #[40, 3, 3] }, type := 4, pos := _, after := #[{ on := 6, ground := Ground.data }, { on := 8, ground := Ground.data }, { on := 10, ground := Ground.data }, { on := 5, ground := Ground.chain }], guard := none }) rfl (fun K hK => ?_) AllReadyH.nil)
        go_simp
        refine (rseen_any _ l.toArray M a.s a.n b k (by omega) HBM.out MBk.out (by exact Pw2.out.rv)).mono ?_
        rintro e w3 ⟨rfl, hk⟩
        have Pw3 := Lib.hid (Pw2.out.other hk)
        have Aw3 := Lib.hid (Aw2.out.other hk)
        clear hk
        refine hK.out _ _ (by exact Pw3.out.ps Aw3.out) (fun hHeld => ?_)
        clear hK K
        (try simp only [Act.put, List.setIfInBounds_toArray, List.set_cons_zero, List.set_cons_succ])
        refine wpAnyH_take (i := 12) (oi := { dst := some 58, op := Op.binOp BinOp.neq 4 (Operand.tmp 51) (Operand.tmp 57) 4, type := 4, pos := _, after := #[{ on := 5, ground := Ground.data }, { on := 11, ground := Ground.data }], guard := none }) (v := _) rfl (by kernel_rfl) (by kernel_rfl) (by kernel_rfl) (fun _ _ _ h => h) (Or.inl ⟨by rfl, by (intro wS hSw; (try dsimp only at hSw); go_simp; try with_reducible rfl)⟩) (by assumption) ?_
        (try simp only [Act.put, List.setIfInBounds_toArray, List.set_cons_zero, List.set_cons_succ])
        refine wpAnyH_done (by kernel_rfl) ?_ _
        go_wp2_with fail
        obtain ⟨L', hL'⟩ : ∃ x, x = L := ⟨_, rfl⟩
        obtain ⟨M', hM'⟩ : ∃ x, x = M := ⟨_, rfl⟩
        obtain ⟨gx', hgx'⟩ : ∃ x, x = gx := ⟨_, rfl⟩
        obtain ⟨v, hv⟩ : ∃ v, newestM M' a.s = v := ⟨_, rfl⟩
        have REL' : Hid (RelL L' M') := Lib.hid (by rw [hL', hM']; exact REL.out)
        have ML' : Hid (ML (k + 1) M') := Lib.hid (by rw [hM']; exact (fun x hx => Nat.le_succ_of_le (HML.out x hx)))
        have PE : Hid (PW w w3 g3 gr gx' l L' M') := Lib.hid (by rw [hL', hM', hgx']; exact Pw3.out)
        have AE : Hid (ActB w3 ga a) := Lib.hid Aw3.out
        have HVM := Lib.hid hv
        have HVL := Lib.hid ((REL'.out.newest a.s).trans hv)
        have Pd := Lib.hid PE.out.drew
        have Ad := Lib.hid AE.out.drew
        have INF := Lib.hid (rv_info PE.out.rv)
        rw [← hgx']
        clear hL' hM' hgx' hv
        refine wp_region_held_drew (S := (fun w' => w'.cell? ⟨ga, 1, none⟩ = some (.int .i64 a.s) ∧ w'.cell? ⟨ga, 2, none⟩ = some (.int .i64 a.n) ∧ w'.rangeAt gr 0 l)) (by kernel_rfl) (by exact PE.out.drew.ps AE.out.drew) (fun hHeld => ?_)
        refine wpAnyH_take (i := 0) (oi := { dst := some 80, op := Op.move (Operand.tmp 9), type := 26, pos := _, after := #[], guard := none }) (v := _) rfl (by kernel_rfl) (by kernel_rfl) (by kernel_rfl) (fun _ _ _ h => h) (Or.inl ⟨by rfl, by (intro wS hSw; (try dsimp only at hSw); go_simp; try with_reducible rfl)⟩) (by assumption) ?_
        (try simp only [Act.put, List.setIfInBounds_toArray, List.set_cons_zero, List.set_cons_succ])
        refine wpAnyH_take (i := 1) (oi := { dst := some 81, op := Op.move (Operand.tmp 10), type := 3, pos := _, after := #[], guard := none }) (v := _) rfl (by kernel_rfl) (by kernel_rfl) (by kernel_rfl) (fun _ _ _ h => h) (Or.inl ⟨by rfl, by (intro wS hSw; (try dsimp only at hSw); go_simp; try with_reducible rfl)⟩) (by assumption) ?_
        (try simp only [Act.put, List.setIfInBounds_toArray, List.set_cons_zero, List.set_cons_succ])
        refine wpAnyH_take (i := 2) (oi := { dst := some 82, op := Op.binOp BinOp.neq 3 (Operand.tmp 80) (Operand.tmp 81) 3, type := 4, pos := _, after := #[{ on := 0, ground := Ground.data }, { on := 1, ground := Ground.data }], guard := none }) (v := _) rfl (by kernel_rfl) (by kernel_rfl) (by kernel_rfl) (fun _ _ _ h => h) (Or.inl ⟨by rfl, by (intro wS hSw; (try dsimp only at hSw); go_simp; try with_reducible rfl)⟩) (by assumption) ?_
        (try simp only [Act.put, List.setIfInBounds_toArray, List.set_cons_zero, List.set_cons_succ])
        refine wpAnyH_take (i := 3) (oi := { dst := some 83, op := Op.move (Operand.tmp 82), type := 4, pos := _, after := #[{ on := 2, ground := Ground.data }], guard := none }) (v := _) rfl (by kernel_rfl) (by kernel_rfl) (by kernel_rfl) (fun _ _ _ h => h) (Or.inl ⟨by rfl, by (intro wS hSw; (try dsimp only at hSw); go_simp; try with_reducible rfl)⟩) (by assumption) ?_
        (try simp only [Act.put, List.setIfInBounds_toArray, List.set_cons_zero, List.set_cons_succ])
        refine wpAnyH_take (i := 4) (oi := { dst := some 84, op := Op.move (Operand.tmp 5), type := 24, pos := _, after := #[{ on := 3, ground := Ground.guard }], guard := some (3, false) }) (v := _) rfl (by kernel_rfl) (by kernel_rfl) (by kernel_rfl) (fun _ _ _ h => h) (Or.inl ⟨by rfl, by (intro wS hSw; (try dsimp only at hSw); go_simp; try with_reducible rfl)⟩) (by assumption) ?_
        (try simp only [Act.put, List.setIfInBounds_toArray, List.set_cons_zero, List.set_cons_succ])
        refine wpAnyH_take (i := 5) (oi := { dst := some 85, op := Op.fieldAddr 29 (Operand.tmp 8) 1, type := 0, pos := _, after := #[{ on := 3, ground := Ground.guard }], guard := some (3, false) }) (v := _) rfl (by kernel_rfl) (by kernel_rfl) (by kernel_rfl) (fun _ _ _ h => h) (Or.inl ⟨by rfl, by (intro wS hSw; (try dsimp only at hSw); go_simp; try with_reducible rfl)⟩) (by assumption) ?_
        (try simp only [Act.put, List.setIfInBounds_toArray, List.set_cons_zero, List.set_cons_succ])
        refine wpAnyH_take (i := 6) (oi := { dst := some 86, op := Op.load 3 (Operand.tmp 85), type := 3, pos := _, after := #[{ on := 5, ground := Ground.data }, { on := 3, ground := Ground.guard }], guard := some (3, false) }) (v := _) rfl (by kernel_rfl) (by kernel_rfl) (by kernel_rfl) (fun _ _ _ h => h) (Or.inl ⟨by rfl, by (intro wS hSw; (try dsimp only at hSw); go_simp; try with_reducible rfl)⟩) (by assumption) ?_
        (try simp only [Act.put, List.setIfInBounds_toArray, List.set_cons_zero, List.set_cons_succ])
        refine wpAnyH_take (i := 8) (oi := { dst := some 88, op := Op.load 40 (Operand.tmp 6), type := 40, pos := _, after := #[{ on := 3, ground := Ground.guard }], guard := some (3, false) }) (v := _) rfl (by kernel_rfl) (by kernel_rfl) (by kernel_rfl) (fun _ _ _ h => h) (yieldsIf_load_mid (by rfl) TR (.tmp 6) rfl gr 0 (by rfl) l _ (fun wS hSw => hSw.2.2) Try.underlying40 rfl (by exact INF.out)) (by assumption) ?_
        (try simp only [Act.put, List.setIfInBounds_toArray, List.set_cons_zero, List.set_cons_succ])
        refine wpAnyH_take (i := 9) (oi := { dst := some 89, op := Op.fieldAddr 29 (Operand.tmp 8) 1, type := 0, pos := _, after := #[{ on := 3, ground := Ground.guard }], guard := some (3, false) }) (v := _) rfl (by kernel_rfl) (by kernel_rfl) (by kernel_rfl) (fun _ _ _ h => h) (Or.inl ⟨by rfl, by (intro wS hSw; (try dsimp only at hSw); go_simp; try with_reducible rfl)⟩) (by assumption) ?_
        (try simp only [Act.put, List.setIfInBounds_toArray, List.set_cons_zero, List.set_cons_succ])
        refine wpAnyH_take (i := 10) (oi := { dst := some 90, op := Op.load 3 (Operand.tmp 89), type := 3, pos := _, after := #[{ on := 9, ground := Ground.data }, { on := 3, ground := Ground.guard }], guard := some (3, false) }) (v := _) rfl (by kernel_rfl) (by kernel_rfl) (by kernel_rfl) (fun _ _ _ h => h) (Or.inl ⟨by rfl, by (intro wS hSw; (try dsimp only at hSw); go_simp; try with_reducible rfl)⟩) (by assumption) ?_
        (try simp only [Act.put, List.setIfInBounds_toArray, List.set_cons_zero, List.set_cons_succ])
        refine wpAnyH_ready (rs := [7]) (by kernel_rfl) (by simp) ?_
        refine (AllReadyH.cons (o := { dst := some 87, op := Op.call { callee := Callee.value (Operand.func 12), args := #[Operand.tmp 84, Operand.tmp 86], argTypes := #[24, 3] }, type := 3, pos := _, after := #[{ on := 4, ground := Ground.data }, { on := 6, ground := Ground.data }, { on := 3, ground := Ground.chain }, { on := 3, ground := Ground.guard }], guard := some (3, false) }) rfl (fun K hK => ?_) AllReadyH.nil)
        go_simp
        refine (newest_any _ gx' L' a.s v HVL.out (by exact Pd.out.led)).mono ?_
        rintro e w8 ⟨rfl, rfl⟩
        refine hK.out _ _ (by exact Pd.out.ps Ad.out) (fun hHeld => ?_)
        clear hK K
        (try simp only [Act.put, List.setIfInBounds_toArray, List.set_cons_zero, List.set_cons_succ])
        refine wpAnyH_ready (rs := [11]) (by kernel_rfl) (by simp) ?_
        refine (AllReadyH.cons (o := { dst := some 91, op := Op.call { callee := Callee.value (Operand.func 34), args := #[Operand.tmp 88, Operand.tmp 90], argTypes := #[40, 3] }, type := 3, pos := _, after := #[{ on := 8, ground := Ground.data }, { on := 10, ground := Ground.data }, { on := 7, ground := Ground.chain }, { on := 3, ground := Ground.guard }], guard := some (3, false) }) rfl (fun K hK => ?_) AllReadyH.nil)
        go_simp
        refine (rnewest_any _ l.toArray M' a.s v HVM.out (by exact Pd.out.rv)).mono ?_
        rintro e w9 ⟨rfl, hk⟩
        have Pw9 := Lib.hid (Pd.out.other hk)
        have Aw9 := Lib.hid (Ad.out.other hk)
        clear hk
        refine hK.out _ _ (by exact Pw9.out.ps Aw9.out) (fun hHeld => ?_)
        clear hK K
        (try simp only [Act.put, List.setIfInBounds_toArray, List.set_cons_zero, List.set_cons_succ])
        refine wpAnyH_take (i := 12) (oi := { dst := some 92, op := Op.binOp BinOp.neq 3 (Operand.tmp 87) (Operand.tmp 91) 3, type := 4, pos := _, after := #[{ on := 7, ground := Ground.data }, { on := 11, ground := Ground.data }, { on := 3, ground := Ground.guard }], guard := some (3, false) }) (v := _) rfl (by kernel_rfl) (by kernel_rfl) (by kernel_rfl) (fun _ _ _ h => h) (Or.inl ⟨by rfl, by (intro wS hSw; (try dsimp only at hSw); go_simp; try with_reducible rfl)⟩) (by assumption) ?_
        (try simp only [Act.put, List.setIfInBounds_toArray, List.set_cons_zero, List.set_cons_succ])
        refine wpAnyH_take (i := 13) (oi := { dst := some 93, op := Op.pick (Operand.tmp 83) (Operand.const (Value.bool true)) (Operand.tmp 92), type := 4, pos := _, after := #[{ on := 3, ground := Ground.data }, { on := 12, ground := Ground.data }], guard := none }) (v := _) rfl (by kernel_rfl) (by kernel_rfl) (by kernel_rfl) (fun _ _ _ h => h) (Or.inl ⟨by rfl, by (intro wS hSw; (try dsimp only at hSw); go_simp; try with_reducible rfl)⟩) (by assumption) ?_
        (try simp only [Act.put, List.setIfInBounds_toArray, List.set_cons_zero, List.set_cons_succ])
        refine wpAnyH_done (by kernel_rfl) ?_ _
        go_wp2_with fail
        go_roundw
        case rel => exact ⟨k + 1, by omega, by omega, by go_num, gx', l, L', M', rfl, Pw9.out, REL'.out, ML'.out⟩
        case measure => simp [intOf] <;> omega
      · have q1 : (a.k == 1) = false := beq_false_of_ne hk1
        clear hk1
        by_cases hk2 : a.k = 2
        · have q2 : (a.k == 2) = true := beq_iff_eq.2 hk2
          clear hk2
          go_wp2_with fail
          refine (image_any _ gx L P1.out.led).mono ?_
          rintro e w5 ⟨A5, n5, c5, rfl, hn5, hs5, hk5, _⟩
          have P5 := Lib.hid (P1.out.other hk5)
          have A5' := Lib.hid (A1.out.other hk5)
          have HS5 := Lib.hid hs5
          have hn5' : n5 ≤ 100000000 := by rw [hn5, imageL_len, P1.out.led.1]; omega
          clear hn5 hs5 hk5
          go_wp2_with fail
          refine (load_r _ A5 n5 c5 _ _ REL.out.back (imageL_oct L) hn5' (HS5.out.vw (by omega))).mono ?_
          rintro e w6 ⟨hk6, g6, rfl, hg6, hl6⟩
          have P6 := Lib.hid (P5.out.swap hk6 (Nat.le_trans P5.out.keep.size hg6) hl6)
          have A6 := Lib.hid (A5'.out.other hk6)
          clear hk6 hg6 hl6 c0 c1 c2
          obtain ⟨c0, c1, c2⟩ := A6.out.cells
          go_wp2_with fail
          obtain ⟨L', hL'⟩ : ∃ x, x = L := ⟨_, rfl⟩
          obtain ⟨M', hM'⟩ : ∃ x, x = M := ⟨_, rfl⟩
          obtain ⟨gx', hgx'⟩ : ∃ x, x = g6 := ⟨_, rfl⟩
          obtain ⟨v, hv⟩ : ∃ v, newestM M' a.s = v := ⟨_, rfl⟩
          have REL' : Hid (RelL L' M') := Lib.hid (by rw [hL', hM']; exact REL.out)
          have ML' : Hid (ML (k + 1) M') := Lib.hid (by rw [hM']; exact (fun x hx => Nat.le_succ_of_le (HML.out x hx)))
          have PE : Hid (PW w w6 g3 gr gx' l L' M') := Lib.hid (by rw [hL', hM', hgx']; exact P6.out)
          have AE : Hid (ActB w6 ga a) := Lib.hid A6.out
          have HVM := Lib.hid hv
          have HVL := Lib.hid ((REL'.out.newest a.s).trans hv)
          have Pd := Lib.hid PE.out.drew
          have Ad := Lib.hid AE.out.drew
          have INF := Lib.hid (rv_info PE.out.rv)
          rw [← hgx']
          clear hL' hM' hgx' hv
          refine wp_region_held_drew (S := (fun w' => w'.cell? ⟨ga, 1, none⟩ = some (.int .i64 a.s) ∧ w'.cell? ⟨ga, 2, none⟩ = some (.int .i64 a.n) ∧ w'.rangeAt gr 0 l)) (by kernel_rfl) (by exact PE.out.drew.ps AE.out.drew) (fun hHeld => ?_)
          refine wpAnyH_take (i := 0) (oi := { dst := some 80, op := Op.move (Operand.tmp 9), type := 26, pos := _, after := #[], guard := none }) (v := _) rfl (by kernel_rfl) (by kernel_rfl) (by kernel_rfl) (fun _ _ _ h => h) (Or.inl ⟨by rfl, by (intro wS hSw; (try dsimp only at hSw); go_simp; try with_reducible rfl)⟩) (by assumption) ?_
          (try simp only [Act.put, List.setIfInBounds_toArray, List.set_cons_zero, List.set_cons_succ])
          refine wpAnyH_take (i := 1) (oi := { dst := some 81, op := Op.move (Operand.tmp 10), type := 3, pos := _, after := #[], guard := none }) (v := _) rfl (by kernel_rfl) (by kernel_rfl) (by kernel_rfl) (fun _ _ _ h => h) (Or.inl ⟨by rfl, by (intro wS hSw; (try dsimp only at hSw); go_simp; try with_reducible rfl)⟩) (by assumption) ?_
          (try simp only [Act.put, List.setIfInBounds_toArray, List.set_cons_zero, List.set_cons_succ])
          refine wpAnyH_take (i := 2) (oi := { dst := some 82, op := Op.binOp BinOp.neq 3 (Operand.tmp 80) (Operand.tmp 81) 3, type := 4, pos := _, after := #[{ on := 0, ground := Ground.data }, { on := 1, ground := Ground.data }], guard := none }) (v := _) rfl (by kernel_rfl) (by kernel_rfl) (by kernel_rfl) (fun _ _ _ h => h) (Or.inl ⟨by rfl, by (intro wS hSw; (try dsimp only at hSw); go_simp; try with_reducible rfl)⟩) (by assumption) ?_
          (try simp only [Act.put, List.setIfInBounds_toArray, List.set_cons_zero, List.set_cons_succ])
          refine wpAnyH_take (i := 3) (oi := { dst := some 83, op := Op.move (Operand.tmp 82), type := 4, pos := _, after := #[{ on := 2, ground := Ground.data }], guard := none }) (v := _) rfl (by kernel_rfl) (by kernel_rfl) (by kernel_rfl) (fun _ _ _ h => h) (Or.inl ⟨by rfl, by (intro wS hSw; (try dsimp only at hSw); go_simp; try with_reducible rfl)⟩) (by assumption) ?_
          (try simp only [Act.put, List.setIfInBounds_toArray, List.set_cons_zero, List.set_cons_succ])
          refine wpAnyH_take (i := 4) (oi := { dst := some 84, op := Op.move (Operand.tmp 5), type := 24, pos := _, after := #[{ on := 3, ground := Ground.guard }], guard := some (3, false) }) (v := _) rfl (by kernel_rfl) (by kernel_rfl) (by kernel_rfl) (fun _ _ _ h => h) (Or.inl ⟨by rfl, by (intro wS hSw; (try dsimp only at hSw); go_simp; try with_reducible rfl)⟩) (by assumption) ?_
          (try simp only [Act.put, List.setIfInBounds_toArray, List.set_cons_zero, List.set_cons_succ])
          refine wpAnyH_take (i := 5) (oi := { dst := some 85, op := Op.fieldAddr 29 (Operand.tmp 8) 1, type := 0, pos := _, after := #[{ on := 3, ground := Ground.guard }], guard := some (3, false) }) (v := _) rfl (by kernel_rfl) (by kernel_rfl) (by kernel_rfl) (fun _ _ _ h => h) (Or.inl ⟨by rfl, by (intro wS hSw; (try dsimp only at hSw); go_simp; try with_reducible rfl)⟩) (by assumption) ?_
          (try simp only [Act.put, List.setIfInBounds_toArray, List.set_cons_zero, List.set_cons_succ])
          refine wpAnyH_take (i := 6) (oi := { dst := some 86, op := Op.load 3 (Operand.tmp 85), type := 3, pos := _, after := #[{ on := 5, ground := Ground.data }, { on := 3, ground := Ground.guard }], guard := some (3, false) }) (v := _) rfl (by kernel_rfl) (by kernel_rfl) (by kernel_rfl) (fun _ _ _ h => h) (Or.inl ⟨by rfl, by (intro wS hSw; (try dsimp only at hSw); go_simp; try with_reducible rfl)⟩) (by assumption) ?_
          (try simp only [Act.put, List.setIfInBounds_toArray, List.set_cons_zero, List.set_cons_succ])
          refine wpAnyH_take (i := 8) (oi := { dst := some 88, op := Op.load 40 (Operand.tmp 6), type := 40, pos := _, after := #[{ on := 3, ground := Ground.guard }], guard := some (3, false) }) (v := _) rfl (by kernel_rfl) (by kernel_rfl) (by kernel_rfl) (fun _ _ _ h => h) (yieldsIf_load_mid (by rfl) TR (.tmp 6) rfl gr 0 (by rfl) l _ (fun wS hSw => hSw.2.2) Try.underlying40 rfl (by exact INF.out)) (by assumption) ?_
          (try simp only [Act.put, List.setIfInBounds_toArray, List.set_cons_zero, List.set_cons_succ])
          refine wpAnyH_take (i := 9) (oi := { dst := some 89, op := Op.fieldAddr 29 (Operand.tmp 8) 1, type := 0, pos := _, after := #[{ on := 3, ground := Ground.guard }], guard := some (3, false) }) (v := _) rfl (by kernel_rfl) (by kernel_rfl) (by kernel_rfl) (fun _ _ _ h => h) (Or.inl ⟨by rfl, by (intro wS hSw; (try dsimp only at hSw); go_simp; try with_reducible rfl)⟩) (by assumption) ?_
          (try simp only [Act.put, List.setIfInBounds_toArray, List.set_cons_zero, List.set_cons_succ])
          refine wpAnyH_take (i := 10) (oi := { dst := some 90, op := Op.load 3 (Operand.tmp 89), type := 3, pos := _, after := #[{ on := 9, ground := Ground.data }, { on := 3, ground := Ground.guard }], guard := some (3, false) }) (v := _) rfl (by kernel_rfl) (by kernel_rfl) (by kernel_rfl) (fun _ _ _ h => h) (Or.inl ⟨by rfl, by (intro wS hSw; (try dsimp only at hSw); go_simp; try with_reducible rfl)⟩) (by assumption) ?_
          (try simp only [Act.put, List.setIfInBounds_toArray, List.set_cons_zero, List.set_cons_succ])
          refine wpAnyH_ready (rs := [7]) (by kernel_rfl) (by simp) ?_
          refine (AllReadyH.cons (o := { dst := some 87, op := Op.call { callee := Callee.value (Operand.func 12), args := #[Operand.tmp 84, Operand.tmp 86], argTypes := #[24, 3] }, type := 3, pos := _, after := #[{ on := 4, ground := Ground.data }, { on := 6, ground := Ground.data }, { on := 3, ground := Ground.chain }, { on := 3, ground := Ground.guard }], guard := some (3, false) }) rfl (fun K hK => ?_) AllReadyH.nil)
          go_simp
          refine (newest_any _ gx' L' a.s v HVL.out (by exact Pd.out.led)).mono ?_
          rintro e w8 ⟨rfl, rfl⟩
          refine hK.out _ _ (by exact Pd.out.ps Ad.out) (fun hHeld => ?_)
          clear hK K
          (try simp only [Act.put, List.setIfInBounds_toArray, List.set_cons_zero, List.set_cons_succ])
          refine wpAnyH_ready (rs := [11]) (by kernel_rfl) (by simp) ?_
          refine (AllReadyH.cons (o := { dst := some 91, op := Op.call { callee := Callee.value (Operand.func 34), args := #[Operand.tmp 88, Operand.tmp 90], argTypes := #[40, 3] }, type := 3, pos := _, after := #[{ on := 8, ground := Ground.data }, { on := 10, ground := Ground.data }, { on := 7, ground := Ground.chain }, { on := 3, ground := Ground.guard }], guard := some (3, false) }) rfl (fun K hK => ?_) AllReadyH.nil)
          go_simp
          refine (rnewest_any _ l.toArray M' a.s v HVM.out (by exact Pd.out.rv)).mono ?_
          rintro e w9 ⟨rfl, hk⟩
          have Pw9 := Lib.hid (Pd.out.other hk)
          have Aw9 := Lib.hid (Ad.out.other hk)
          clear hk
          refine hK.out _ _ (by exact Pw9.out.ps Aw9.out) (fun hHeld => ?_)
          clear hK K
          (try simp only [Act.put, List.setIfInBounds_toArray, List.set_cons_zero, List.set_cons_succ])
          refine wpAnyH_take (i := 12) (oi := { dst := some 92, op := Op.binOp BinOp.neq 3 (Operand.tmp 87) (Operand.tmp 91) 3, type := 4, pos := _, after := #[{ on := 7, ground := Ground.data }, { on := 11, ground := Ground.data }, { on := 3, ground := Ground.guard }], guard := some (3, false) }) (v := _) rfl (by kernel_rfl) (by kernel_rfl) (by kernel_rfl) (fun _ _ _ h => h) (Or.inl ⟨by rfl, by (intro wS hSw; (try dsimp only at hSw); go_simp; try with_reducible rfl)⟩) (by assumption) ?_
          (try simp only [Act.put, List.setIfInBounds_toArray, List.set_cons_zero, List.set_cons_succ])
          refine wpAnyH_take (i := 13) (oi := { dst := some 93, op := Op.pick (Operand.tmp 83) (Operand.const (Value.bool true)) (Operand.tmp 92), type := 4, pos := _, after := #[{ on := 3, ground := Ground.data }, { on := 12, ground := Ground.data }], guard := none }) (v := _) rfl (by kernel_rfl) (by kernel_rfl) (by kernel_rfl) (fun _ _ _ h => h) (Or.inl ⟨by rfl, by (intro wS hSw; (try dsimp only at hSw); go_simp; try with_reducible rfl)⟩) (by assumption) ?_
          (try simp only [Act.put, List.setIfInBounds_toArray, List.set_cons_zero, List.set_cons_succ])
          refine wpAnyH_done (by kernel_rfl) ?_ _
          go_wp2_with fail
          go_roundw
          case rel => exact ⟨k + 1, by omega, by omega, by go_num, gx', l, L', M', rfl, Pw9.out, REL'.out, ML'.out⟩
          case measure => simp [intOf] <;> omega
        · have q2 : (a.k == 2) = false := beq_false_of_ne hk2
          clear hk2
          obtain ⟨L1, z, hm1⟩ : ∃ L1 z, markL L a.s a.n = (L1, z) := ⟨_, _, rfl⟩
          have HM1 := Lib.hid hm1
          clear hm1
          by_cases hk3 : a.k = 3
          · have q3 : (a.k == 3) = true := beq_iff_eq.2 hk3
            clear hk3
            go_wp2_with fail
            refine (lclone_any _ gx L P1.out.led).mono ?_
            rintro e w5 ⟨g5, rfl, hg5, hl5, hk5⟩
            have P5 := Lib.hid (P1.out.other hk5)
            have A5 := Lib.hid (A1.out.other hk5)
            have HL5 := Lib.hid hl5
            have HG5 : Hid (w.heap.size ≤ g5 ∧ g5 ≠ gx) := Lib.hid ⟨by rw [hg5]; exact P1.out.keep.size, by have := P1.out.led.lt; omega⟩
            clear hg5 hl5 hk5 c0 c1 c2
            obtain ⟨c0, c1, c2⟩ := A5.out.cells
            go_wp2_with fail
            refine (mark_any _ gx L a.s a.n _ HM1.out P5.out.led).mono ?_
            rintro e w6 ⟨rfl, hl6, hk6⟩
            have P6' := Lib.hid (P5.out.marked hl6 hk6)
            have P6 := Lib.hid (P6'.out.swap (Keep.refl _ _ _) HG5.out.1 (HL5.out.keepS hk6 (by simpa using HG5.out.2)))
            have A6 := Lib.hid (A5.out.marked P5.out.led hk6)
            clear hl6 hk6 c0 c1 c2
            obtain ⟨c0, c1, c2⟩ := A6.out.cells
            go_wp2_with fail
            obtain ⟨L', hL'⟩ : ∃ x, x = L := ⟨_, rfl⟩
            obtain ⟨M', hM'⟩ : ∃ x, x = M := ⟨_, rfl⟩
            obtain ⟨gx', hgx'⟩ : ∃ x, x = g5 := ⟨_, rfl⟩
            obtain ⟨v, hv⟩ : ∃ v, newestM M' a.s = v := ⟨_, rfl⟩
            have REL' : Hid (RelL L' M') := Lib.hid (by rw [hL', hM']; exact REL.out)
            have ML' : Hid (ML (k + 1) M') := Lib.hid (by rw [hM']; exact (fun x hx => Nat.le_succ_of_le (HML.out x hx)))
            have PE : Hid (PW w w6 g3 gr gx' l L' M') := Lib.hid (by rw [hL', hM', hgx']; exact P6.out)
            have AE : Hid (ActB w6 ga a) := Lib.hid A6.out
            have HVM := Lib.hid hv
            have HVL := Lib.hid ((REL'.out.newest a.s).trans hv)
            have Pd := Lib.hid PE.out.drew
            have Ad := Lib.hid AE.out.drew
            have INF := Lib.hid (rv_info PE.out.rv)
            rw [← hgx']
            clear hL' hM' hgx' hv
            refine wp_region_held_drew (S := (fun w' => w'.cell? ⟨ga, 1, none⟩ = some (.int .i64 a.s) ∧ w'.cell? ⟨ga, 2, none⟩ = some (.int .i64 a.n) ∧ w'.rangeAt gr 0 l)) (by kernel_rfl) (by exact PE.out.drew.ps AE.out.drew) (fun hHeld => ?_)
            refine wpAnyH_take (i := 0) (oi := { dst := some 80, op := Op.move (Operand.tmp 9), type := 26, pos := _, after := #[], guard := none }) (v := _) rfl (by kernel_rfl) (by kernel_rfl) (by kernel_rfl) (fun _ _ _ h => h) (Or.inl ⟨by rfl, by (intro wS hSw; (try dsimp only at hSw); go_simp; try with_reducible rfl)⟩) (by assumption) ?_
            (try simp only [Act.put, List.setIfInBounds_toArray, List.set_cons_zero, List.set_cons_succ])
            refine wpAnyH_take (i := 1) (oi := { dst := some 81, op := Op.move (Operand.tmp 10), type := 3, pos := _, after := #[], guard := none }) (v := _) rfl (by kernel_rfl) (by kernel_rfl) (by kernel_rfl) (fun _ _ _ h => h) (Or.inl ⟨by rfl, by (intro wS hSw; (try dsimp only at hSw); go_simp; try with_reducible rfl)⟩) (by assumption) ?_
            (try simp only [Act.put, List.setIfInBounds_toArray, List.set_cons_zero, List.set_cons_succ])
            refine wpAnyH_take (i := 2) (oi := { dst := some 82, op := Op.binOp BinOp.neq 3 (Operand.tmp 80) (Operand.tmp 81) 3, type := 4, pos := _, after := #[{ on := 0, ground := Ground.data }, { on := 1, ground := Ground.data }], guard := none }) (v := _) rfl (by kernel_rfl) (by kernel_rfl) (by kernel_rfl) (fun _ _ _ h => h) (Or.inl ⟨by rfl, by (intro wS hSw; (try dsimp only at hSw); go_simp; try with_reducible rfl)⟩) (by assumption) ?_
            (try simp only [Act.put, List.setIfInBounds_toArray, List.set_cons_zero, List.set_cons_succ])
            refine wpAnyH_take (i := 3) (oi := { dst := some 83, op := Op.move (Operand.tmp 82), type := 4, pos := _, after := #[{ on := 2, ground := Ground.data }], guard := none }) (v := _) rfl (by kernel_rfl) (by kernel_rfl) (by kernel_rfl) (fun _ _ _ h => h) (Or.inl ⟨by rfl, by (intro wS hSw; (try dsimp only at hSw); go_simp; try with_reducible rfl)⟩) (by assumption) ?_
            (try simp only [Act.put, List.setIfInBounds_toArray, List.set_cons_zero, List.set_cons_succ])
            refine wpAnyH_take (i := 4) (oi := { dst := some 84, op := Op.move (Operand.tmp 5), type := 24, pos := _, after := #[{ on := 3, ground := Ground.guard }], guard := some (3, false) }) (v := _) rfl (by kernel_rfl) (by kernel_rfl) (by kernel_rfl) (fun _ _ _ h => h) (Or.inl ⟨by rfl, by (intro wS hSw; (try dsimp only at hSw); go_simp; try with_reducible rfl)⟩) (by assumption) ?_
            (try simp only [Act.put, List.setIfInBounds_toArray, List.set_cons_zero, List.set_cons_succ])
            refine wpAnyH_take (i := 5) (oi := { dst := some 85, op := Op.fieldAddr 29 (Operand.tmp 8) 1, type := 0, pos := _, after := #[{ on := 3, ground := Ground.guard }], guard := some (3, false) }) (v := _) rfl (by kernel_rfl) (by kernel_rfl) (by kernel_rfl) (fun _ _ _ h => h) (Or.inl ⟨by rfl, by (intro wS hSw; (try dsimp only at hSw); go_simp; try with_reducible rfl)⟩) (by assumption) ?_
            (try simp only [Act.put, List.setIfInBounds_toArray, List.set_cons_zero, List.set_cons_succ])
            refine wpAnyH_take (i := 6) (oi := { dst := some 86, op := Op.load 3 (Operand.tmp 85), type := 3, pos := _, after := #[{ on := 5, ground := Ground.data }, { on := 3, ground := Ground.guard }], guard := some (3, false) }) (v := _) rfl (by kernel_rfl) (by kernel_rfl) (by kernel_rfl) (fun _ _ _ h => h) (Or.inl ⟨by rfl, by (intro wS hSw; (try dsimp only at hSw); go_simp; try with_reducible rfl)⟩) (by assumption) ?_
            (try simp only [Act.put, List.setIfInBounds_toArray, List.set_cons_zero, List.set_cons_succ])
            refine wpAnyH_take (i := 8) (oi := { dst := some 88, op := Op.load 40 (Operand.tmp 6), type := 40, pos := _, after := #[{ on := 3, ground := Ground.guard }], guard := some (3, false) }) (v := _) rfl (by kernel_rfl) (by kernel_rfl) (by kernel_rfl) (fun _ _ _ h => h) (yieldsIf_load_mid (by rfl) TR (.tmp 6) rfl gr 0 (by rfl) l _ (fun wS hSw => hSw.2.2) Try.underlying40 rfl (by exact INF.out)) (by assumption) ?_
            (try simp only [Act.put, List.setIfInBounds_toArray, List.set_cons_zero, List.set_cons_succ])
            refine wpAnyH_take (i := 9) (oi := { dst := some 89, op := Op.fieldAddr 29 (Operand.tmp 8) 1, type := 0, pos := _, after := #[{ on := 3, ground := Ground.guard }], guard := some (3, false) }) (v := _) rfl (by kernel_rfl) (by kernel_rfl) (by kernel_rfl) (fun _ _ _ h => h) (Or.inl ⟨by rfl, by (intro wS hSw; (try dsimp only at hSw); go_simp; try with_reducible rfl)⟩) (by assumption) ?_
            (try simp only [Act.put, List.setIfInBounds_toArray, List.set_cons_zero, List.set_cons_succ])
            refine wpAnyH_take (i := 10) (oi := { dst := some 90, op := Op.load 3 (Operand.tmp 89), type := 3, pos := _, after := #[{ on := 9, ground := Ground.data }, { on := 3, ground := Ground.guard }], guard := some (3, false) }) (v := _) rfl (by kernel_rfl) (by kernel_rfl) (by kernel_rfl) (fun _ _ _ h => h) (Or.inl ⟨by rfl, by (intro wS hSw; (try dsimp only at hSw); go_simp; try with_reducible rfl)⟩) (by assumption) ?_
            (try simp only [Act.put, List.setIfInBounds_toArray, List.set_cons_zero, List.set_cons_succ])
            refine wpAnyH_ready (rs := [7]) (by kernel_rfl) (by simp) ?_
            refine (AllReadyH.cons (o := { dst := some 87, op := Op.call { callee := Callee.value (Operand.func 12), args := #[Operand.tmp 84, Operand.tmp 86], argTypes := #[24, 3] }, type := 3, pos := _, after := #[{ on := 4, ground := Ground.data }, { on := 6, ground := Ground.data }, { on := 3, ground := Ground.chain }, { on := 3, ground := Ground.guard }], guard := some (3, false) }) rfl (fun K hK => ?_) AllReadyH.nil)
            go_simp
            refine (newest_any _ gx' L' a.s v HVL.out (by exact Pd.out.led)).mono ?_
            rintro e w8 ⟨rfl, rfl⟩
            refine hK.out _ _ (by exact Pd.out.ps Ad.out) (fun hHeld => ?_)
            clear hK K
            (try simp only [Act.put, List.setIfInBounds_toArray, List.set_cons_zero, List.set_cons_succ])
            refine wpAnyH_ready (rs := [11]) (by kernel_rfl) (by simp) ?_
            refine (AllReadyH.cons (o := { dst := some 91, op := Op.call { callee := Callee.value (Operand.func 34), args := #[Operand.tmp 88, Operand.tmp 90], argTypes := #[40, 3] }, type := 3, pos := _, after := #[{ on := 8, ground := Ground.data }, { on := 10, ground := Ground.data }, { on := 7, ground := Ground.chain }, { on := 3, ground := Ground.guard }], guard := some (3, false) }) rfl (fun K hK => ?_) AllReadyH.nil)
            go_simp
            refine (rnewest_any _ l.toArray M' a.s v HVM.out (by exact Pd.out.rv)).mono ?_
            rintro e w9 ⟨rfl, hk⟩
            have Pw9 := Lib.hid (Pd.out.other hk)
            have Aw9 := Lib.hid (Ad.out.other hk)
            clear hk
            refine hK.out _ _ (by exact Pw9.out.ps Aw9.out) (fun hHeld => ?_)
            clear hK K
            (try simp only [Act.put, List.setIfInBounds_toArray, List.set_cons_zero, List.set_cons_succ])
            refine wpAnyH_take (i := 12) (oi := { dst := some 92, op := Op.binOp BinOp.neq 3 (Operand.tmp 87) (Operand.tmp 91) 3, type := 4, pos := _, after := #[{ on := 7, ground := Ground.data }, { on := 11, ground := Ground.data }, { on := 3, ground := Ground.guard }], guard := some (3, false) }) (v := _) rfl (by kernel_rfl) (by kernel_rfl) (by kernel_rfl) (fun _ _ _ h => h) (Or.inl ⟨by rfl, by (intro wS hSw; (try dsimp only at hSw); go_simp; try with_reducible rfl)⟩) (by assumption) ?_
            (try simp only [Act.put, List.setIfInBounds_toArray, List.set_cons_zero, List.set_cons_succ])
            refine wpAnyH_take (i := 13) (oi := { dst := some 93, op := Op.pick (Operand.tmp 83) (Operand.const (Value.bool true)) (Operand.tmp 92), type := 4, pos := _, after := #[{ on := 3, ground := Ground.data }, { on := 12, ground := Ground.data }], guard := none }) (v := _) rfl (by kernel_rfl) (by kernel_rfl) (by kernel_rfl) (fun _ _ _ h => h) (Or.inl ⟨by rfl, by (intro wS hSw; (try dsimp only at hSw); go_simp; try with_reducible rfl)⟩) (by assumption) ?_
            (try simp only [Act.put, List.setIfInBounds_toArray, List.set_cons_zero, List.set_cons_succ])
            refine wpAnyH_done (by kernel_rfl) ?_ _
            go_wp2_with fail
            go_roundw
            case rel => exact ⟨k + 1, by omega, by omega, by go_num, gx', l, L', M', rfl, Pw9.out, REL'.out, ML'.out⟩
            case measure => simp [intOf] <;> omega
          · have q3 : (a.k == 3) = false := beq_false_of_ne hk3
            clear hk3
            obtain ⟨M1, z', hm2⟩ : ∃ M1 z', markM M a.s a.n = (M1, z') := ⟨_, _, rfl⟩
            have hrm := REL.out.mark a.s a.n
            rw [HM1.out, hm2] at hrm
            obtain ⟨rfl, hrel1⟩ := hrm
            have HM2 := Lib.hid hm2
            have RL1 := Lib.hid hrel1
            have hzz : (z != z) = false := bne_self_eq_false z
            clear hm2 hrel1
            go_wp2_with fail
            refine (mark_any _ gx L a.s a.n _ HM1.out P1.out.led).mono ?_
            rintro e w5 ⟨rfl, hl5, hk5⟩
            have P5 := Lib.hid (P1.out.marked hl5 hk5)
            have A5 := Lib.hid (A1.out.marked P1.out.led hk5)
            clear hl5 hk5 c0 c1 c2
            obtain ⟨c0, c1, c2⟩ := A5.out.cells
            go_wp2_with (refine wpList_load_mid rfl TR (.tmp 6) rfl gr 0 rfl l _ P5.out.br.range Try.underlying40 rfl (by exact INF.out) ?_)
            refine (rmark_any _ l.toArray M M1 a.s a.n z k (by omega) HM2.out MBk.out P5.out.rv).mono ?_
            rintro e w6 ⟨cs6, rfl, hr6, hk6⟩
            obtain ⟨l6, rfl⟩ : ∃ l : List Value, cs6 = l.toArray := ⟨cs6.toList, by simp⟩
            have P6 := Lib.hid (P5.out.other hk6)
            have A6 := Lib.hid (A5.out.other hk6)
            have R6 := Lib.hid hr6
            clear hr6 hk6 c0 c1 c2
            obtain ⟨c0, c1, c2⟩ := A6.out.cells
            go_wp2_with (refine wpList_store_mid rfl TR (.tmp 6) (.tmp 42) rfl gr 0 l6.toArray rfl rfl (P6.out.there R6.out) (rv_infoA R6.out) R6.out.one ?_
                         have P7 := Lib.hid (P6.out.stored R6.out)
                         have A7 := Lib.hid (A6.out.stored P6.out.br l6)
                         clear c0 c1 c2
                         obtain ⟨W7, hW7⟩ : ∃ W, W = w6.setCells gr 0 l6 := ⟨_, rfl⟩
                         change wpList _ _ _ _ _ (w6.setCells gr 0 l6)
                         rw [← hW7] at P7 A7 ⊢
                         clear hW7
                         obtain ⟨c0, c1, c2⟩ := A7.out.cells)
            obtain ⟨l, hl⟩ : ∃ l', l' = l6 := ⟨_, rfl⟩
            rw [← hl] at P7
            clear hl INF
            obtain ⟨L', hL'⟩ : ∃ x, x = L1 := ⟨_, rfl⟩
            obtain ⟨M', hM'⟩ : ∃ x, x = M1 := ⟨_, rfl⟩
            obtain ⟨gx', hgx'⟩ : ∃ x, x = gx := ⟨_, rfl⟩
            obtain ⟨v, hv⟩ : ∃ v, newestM M' a.s = v := ⟨_, rfl⟩
            have REL' : Hid (RelL L' M') := Lib.hid (by rw [hL', hM']; exact RL1.out)
            have ML' : Hid (ML (k + 1) M') := Lib.hid (by rw [hM']; exact (markM_len HML.out HM2.out))
            have PE : Hid (PW w W7 g3 gr gx' l L' M') := Lib.hid (by rw [hL', hM', hgx']; exact P7.out)
            have AE : Hid (ActB W7 ga a) := Lib.hid A7.out
            have HVM := Lib.hid hv
            have HVL := Lib.hid ((REL'.out.newest a.s).trans hv)
            have Pd := Lib.hid PE.out.drew
            have Ad := Lib.hid AE.out.drew
            have INF := Lib.hid (rv_info PE.out.rv)
            rw [← hgx']
            clear hL' hM' hgx' hv
            refine wp_region_held_drew (S := (fun w' => w'.cell? ⟨ga, 1, none⟩ = some (.int .i64 a.s) ∧ w'.cell? ⟨ga, 2, none⟩ = some (.int .i64 a.n) ∧ w'.rangeAt gr 0 l)) (by kernel_rfl) (by exact PE.out.drew.ps AE.out.drew) (fun hHeld => ?_)
            refine wpAnyH_take (i := 0) (oi := { dst := some 80, op := Op.move (Operand.tmp 9), type := 26, pos := _, after := #[], guard := none }) (v := _) rfl (by kernel_rfl) (by kernel_rfl) (by kernel_rfl) (fun _ _ _ h => h) (Or.inl ⟨by rfl, by (intro wS hSw; (try dsimp only at hSw); go_simp; try with_reducible rfl)⟩) (by assumption) ?_
            (try simp only [Act.put, List.setIfInBounds_toArray, List.set_cons_zero, List.set_cons_succ])
            refine wpAnyH_take (i := 1) (oi := { dst := some 81, op := Op.move (Operand.tmp 10), type := 3, pos := _, after := #[], guard := none }) (v := _) rfl (by kernel_rfl) (by kernel_rfl) (by kernel_rfl) (fun _ _ _ h => h) (Or.inl ⟨by rfl, by (intro wS hSw; (try dsimp only at hSw); go_simp; try with_reducible rfl)⟩) (by assumption) ?_
            (try simp only [Act.put, List.setIfInBounds_toArray, List.set_cons_zero, List.set_cons_succ])
            refine wpAnyH_take (i := 2) (oi := { dst := some 82, op := Op.binOp BinOp.neq 3 (Operand.tmp 80) (Operand.tmp 81) 3, type := 4, pos := _, after := #[{ on := 0, ground := Ground.data }, { on := 1, ground := Ground.data }], guard := none }) (v := _) rfl (by kernel_rfl) (by kernel_rfl) (by kernel_rfl) (fun _ _ _ h => h) (Or.inl ⟨by rfl, by (intro wS hSw; (try dsimp only at hSw); go_simp; try with_reducible rfl)⟩) (by assumption) ?_
            (try simp only [Act.put, List.setIfInBounds_toArray, List.set_cons_zero, List.set_cons_succ])
            refine wpAnyH_take (i := 3) (oi := { dst := some 83, op := Op.move (Operand.tmp 82), type := 4, pos := _, after := #[{ on := 2, ground := Ground.data }], guard := none }) (v := _) rfl (by kernel_rfl) (by kernel_rfl) (by kernel_rfl) (fun _ _ _ h => h) (Or.inl ⟨by rfl, by (intro wS hSw; (try dsimp only at hSw); go_simp; try with_reducible rfl)⟩) (by assumption) ?_
            (try simp only [Act.put, List.setIfInBounds_toArray, List.set_cons_zero, List.set_cons_succ])
            refine wpAnyH_take (i := 4) (oi := { dst := some 84, op := Op.move (Operand.tmp 5), type := 24, pos := _, after := #[{ on := 3, ground := Ground.guard }], guard := some (3, false) }) (v := _) rfl (by kernel_rfl) (by kernel_rfl) (by kernel_rfl) (fun _ _ _ h => h) (Or.inl ⟨by rfl, by (intro wS hSw; (try dsimp only at hSw); go_simp; try with_reducible rfl)⟩) (by assumption) ?_
            (try simp only [Act.put, List.setIfInBounds_toArray, List.set_cons_zero, List.set_cons_succ])
            refine wpAnyH_take (i := 5) (oi := { dst := some 85, op := Op.fieldAddr 29 (Operand.tmp 8) 1, type := 0, pos := _, after := #[{ on := 3, ground := Ground.guard }], guard := some (3, false) }) (v := _) rfl (by kernel_rfl) (by kernel_rfl) (by kernel_rfl) (fun _ _ _ h => h) (Or.inl ⟨by rfl, by (intro wS hSw; (try dsimp only at hSw); go_simp; try with_reducible rfl)⟩) (by assumption) ?_
            (try simp only [Act.put, List.setIfInBounds_toArray, List.set_cons_zero, List.set_cons_succ])
            refine wpAnyH_take (i := 6) (oi := { dst := some 86, op := Op.load 3 (Operand.tmp 85), type := 3, pos := _, after := #[{ on := 5, ground := Ground.data }, { on := 3, ground := Ground.guard }], guard := some (3, false) }) (v := _) rfl (by kernel_rfl) (by kernel_rfl) (by kernel_rfl) (fun _ _ _ h => h) (Or.inl ⟨by rfl, by (intro wS hSw; (try dsimp only at hSw); go_simp; try with_reducible rfl)⟩) (by assumption) ?_
            (try simp only [Act.put, List.setIfInBounds_toArray, List.set_cons_zero, List.set_cons_succ])
            refine wpAnyH_take (i := 8) (oi := { dst := some 88, op := Op.load 40 (Operand.tmp 6), type := 40, pos := _, after := #[{ on := 3, ground := Ground.guard }], guard := some (3, false) }) (v := _) rfl (by kernel_rfl) (by kernel_rfl) (by kernel_rfl) (fun _ _ _ h => h) (yieldsIf_load_mid (by rfl) TR (.tmp 6) rfl gr 0 (by rfl) l _ (fun wS hSw => hSw.2.2) Try.underlying40 rfl (by exact INF.out)) (by assumption) ?_
            (try simp only [Act.put, List.setIfInBounds_toArray, List.set_cons_zero, List.set_cons_succ])
            refine wpAnyH_take (i := 9) (oi := { dst := some 89, op := Op.fieldAddr 29 (Operand.tmp 8) 1, type := 0, pos := _, after := #[{ on := 3, ground := Ground.guard }], guard := some (3, false) }) (v := _) rfl (by kernel_rfl) (by kernel_rfl) (by kernel_rfl) (fun _ _ _ h => h) (Or.inl ⟨by rfl, by (intro wS hSw; (try dsimp only at hSw); go_simp; try with_reducible rfl)⟩) (by assumption) ?_
            (try simp only [Act.put, List.setIfInBounds_toArray, List.set_cons_zero, List.set_cons_succ])
            refine wpAnyH_take (i := 10) (oi := { dst := some 90, op := Op.load 3 (Operand.tmp 89), type := 3, pos := _, after := #[{ on := 9, ground := Ground.data }, { on := 3, ground := Ground.guard }], guard := some (3, false) }) (v := _) rfl (by kernel_rfl) (by kernel_rfl) (by kernel_rfl) (fun _ _ _ h => h) (Or.inl ⟨by rfl, by (intro wS hSw; (try dsimp only at hSw); go_simp; try with_reducible rfl)⟩) (by assumption) ?_
            (try simp only [Act.put, List.setIfInBounds_toArray, List.set_cons_zero, List.set_cons_succ])
            refine wpAnyH_ready (rs := [7]) (by kernel_rfl) (by simp) ?_
            refine (AllReadyH.cons (o := { dst := some 87, op := Op.call { callee := Callee.value (Operand.func 12), args := #[Operand.tmp 84, Operand.tmp 86], argTypes := #[24, 3] }, type := 3, pos := _, after := #[{ on := 4, ground := Ground.data }, { on := 6, ground := Ground.data }, { on := 3, ground := Ground.chain }, { on := 3, ground := Ground.guard }], guard := some (3, false) }) rfl (fun K hK => ?_) AllReadyH.nil)
            go_simp
            refine (newest_any _ gx' L' a.s v HVL.out (by exact Pd.out.led)).mono ?_
            rintro e w8 ⟨rfl, rfl⟩
            refine hK.out _ _ (by exact Pd.out.ps Ad.out) (fun hHeld => ?_)
            clear hK K
            (try simp only [Act.put, List.setIfInBounds_toArray, List.set_cons_zero, List.set_cons_succ])
            refine wpAnyH_ready (rs := [11]) (by kernel_rfl) (by simp) ?_
            refine (AllReadyH.cons (o := { dst := some 91, op := Op.call { callee := Callee.value (Operand.func 34), args := #[Operand.tmp 88, Operand.tmp 90], argTypes := #[40, 3] }, type := 3, pos := _, after := #[{ on := 8, ground := Ground.data }, { on := 10, ground := Ground.data }, { on := 7, ground := Ground.chain }, { on := 3, ground := Ground.guard }], guard := some (3, false) }) rfl (fun K hK => ?_) AllReadyH.nil)
            go_simp
            refine (rnewest_any _ l.toArray M' a.s v HVM.out (by exact Pd.out.rv)).mono ?_
            rintro e w9 ⟨rfl, hk⟩
            have Pw9 := Lib.hid (Pd.out.other hk)
            have Aw9 := Lib.hid (Ad.out.other hk)
            clear hk
            refine hK.out _ _ (by exact Pw9.out.ps Aw9.out) (fun hHeld => ?_)
            clear hK K
            (try simp only [Act.put, List.setIfInBounds_toArray, List.set_cons_zero, List.set_cons_succ])
            refine wpAnyH_take (i := 12) (oi := { dst := some 92, op := Op.binOp BinOp.neq 3 (Operand.tmp 87) (Operand.tmp 91) 3, type := 4, pos := _, after := #[{ on := 7, ground := Ground.data }, { on := 11, ground := Ground.data }, { on := 3, ground := Ground.guard }], guard := some (3, false) }) (v := _) rfl (by kernel_rfl) (by kernel_rfl) (by kernel_rfl) (fun _ _ _ h => h) (Or.inl ⟨by rfl, by (intro wS hSw; (try dsimp only at hSw); go_simp; try with_reducible rfl)⟩) (by assumption) ?_
            (try simp only [Act.put, List.setIfInBounds_toArray, List.set_cons_zero, List.set_cons_succ])
            refine wpAnyH_take (i := 13) (oi := { dst := some 93, op := Op.pick (Operand.tmp 83) (Operand.const (Value.bool true)) (Operand.tmp 92), type := 4, pos := _, after := #[{ on := 3, ground := Ground.data }, { on := 12, ground := Ground.data }], guard := none }) (v := _) rfl (by kernel_rfl) (by kernel_rfl) (by kernel_rfl) (fun _ _ _ h => h) (Or.inl ⟨by rfl, by (intro wS hSw; (try dsimp only at hSw); go_simp; try with_reducible rfl)⟩) (by assumption) ?_
            (try simp only [Act.put, List.setIfInBounds_toArray, List.set_cons_zero, List.set_cons_succ])
            refine wpAnyH_done (by kernel_rfl) ?_ _
            go_wp2_with fail
            go_roundw
            case rel => exact ⟨k + 1, by omega, by omega, by go_num, gx', l, L', M', rfl, Pw9.out, REL'.out, ML'.out⟩
            case measure => simp [intOf] <;> omega
    · have hlt' : (n : Int) ≤ (k : Int) ∨ (100 : Int) ≤ (k : Int) := by omega
      have INF := Lib.hid (rv_info P0.out.rv)
      have hfin : ∀ W', (∃ W, PW w W g3 gr gx l L M ∧ W.setCells g3 0 l = W') → Led W' gx L ∧ RV W' l.toArray M ∧ Keep w.heap.size [] w W' ∧ Blk W' g3 TR l.toArray := by
        rintro _ ⟨W, hp, rfl⟩
        have k3 : Keep W.heap.size [g3] W (W.setCells g3 0 l) := Keep.setCells (.inr (by simp)) l 0 _ (Keep.refl _ _ _)
        have e1 := hp.b3.ne_ hp.led.2.1 (by decide)
        exact ⟨hp.led.keepS k3 (by simpa using e1.symm), hp.rv.keepB hp.b3 (by decide) k3, hp.keep.chain1 (Nat.le_refl _) k3 hp.h3, hp.b3.setAll (by rw [hp.rv.sz]; rfl)⟩
      have HF := Lib.hid hfin
      have HML1 : Hid (ML 100 M) := Lib.hid (fun x hx => Nat.le_trans (HML.out x hx) hk100)
      clear hfin
      have hcase : (n : Int) ≤ (k : Int) ∨ ((k : Int) < (n : Int) ∧ (100 : Int) ≤ (k : Int)) := by omega
      clear hlt hlt'
      rcases hcase with hcase | ⟨hc1, hc2⟩
      all_goals
        go_wp2_with fail
        refine wp_region_held_drew (S := (fun w' => w'.rangeAt gr 0 l)) (by kernel_rfl) (by exact P0.out.drew.br.range) (fun hHeld => ?_)
        refine wpAnyH_take (i := 0) (oi := { dst := some 96, op := Op.move (Operand.tmp 5), type := 24, pos := _, after := #[], guard := none }) (v := _) rfl (by kernel_rfl) (by kernel_rfl) (by kernel_rfl) (fun _ _ _ h => h) (Or.inl ⟨by rfl, by (intro wS hSw; (try dsimp only at hSw); go_simp; try with_reducible rfl)⟩) (by assumption) ?_
        (try simp only [Act.put, List.setIfInBounds_toArray, List.set_cons_zero, List.set_cons_succ])
        refine wpAnyH_take (i := 1) (oi := { dst := some 97, op := Op.load 40 (Operand.tmp 6), type := 40, pos := _, after := #[{ on := 2, ground := Ground.gcOnly Departure.lateStores }], guard := none }) (v := _) rfl (by kernel_rfl) (by kernel_rfl) (by kernel_rfl) (fun _ _ _ h => h) (yieldsIf_load_mid (by rfl) TR (.tmp 6) rfl gr 0 (by rfl) l _ (fun wS hSw => hSw) Try.underlying40 rfl (by exact INF.out)) (by assumption) ?_
        (try simp only [Act.put, List.setIfInBounds_toArray, List.set_cons_zero, List.set_cons_succ])
        refine wpAnyH_take (i := 2) (oi := { dst := some 2, op := Op.assign (Operand.tmp 96), type := 24, pos := _, after := #[{ on := 0, ground := Ground.data }, { on := 0, ground := Ground.phase }, { on := 1, ground := Ground.textOnly Departure.lateStores }], guard := none }) (v := _) rfl (by kernel_rfl) (by kernel_rfl) (by kernel_rfl) (fun _ _ _ h => h) (Or.inl ⟨by rfl, by (intro wS hSw; (try dsimp only at hSw); go_simp; try with_reducible rfl)⟩) (by assumption) ?_
        (try simp only [Act.put, List.setIfInBounds_toArray, List.set_cons_zero, List.set_cons_succ])
        refine wpAnyH_ready (rs := [3]) (by kernel_rfl) (by simp) ?_
        refine (AllReadyH.cons (o := { dst := none, op := Op.store 40 (Operand.tmp 3) (Operand.tmp 97), type := 0, pos := _, after := #[{ on := 1, ground := Ground.data }, { on := 2, ground := Ground.chain }, { on := 0, ground := Ground.phase }, { on := 1, ground := Ground.phase }, { on := 2, ground := Ground.phase }], guard := none }) rfl (fun K hK => ?_) AllReadyH.nil)
        refine step_store_mid (by rfl) TR (.tmp 3) (.tmp 97) rfl g3 0 l.toArray rfl rfl (P0.out.drew.b3.there 0 _ (by rw [P0.out.rv.sz]; decide)) (rv_infoA P0.out.rv) P0.out.rv.one ?_
        refine hK.out _ _ (by exact World.rangeAt_setCells_apart P0.out.drew.br.range g3 0 _ (.inl P0.out.ne.symm)) (fun hHeld => ?_)
        clear hK K
        (try simp only [Act.put, List.setIfInBounds_toArray, List.set_cons_zero, List.set_cons_succ])
        refine wpAnyH_take (i := 4) (oi := { dst := some 4, op := Op.assign (Operand.const (Value.bool true)), type := 4, pos := _, after := #[{ on := 3, ground := Ground.chain }, { on := 0, ground := Ground.phase }, { on := 1, ground := Ground.phase }, { on := 2, ground := Ground.phase }, { on := 3, ground := Ground.phase }], guard := none }) (v := _) rfl (by kernel_rfl) (by kernel_rfl) (by kernel_rfl) (fun _ _ _ h => h) (Or.inl ⟨by rfl, by (intro wS hSw; (try dsimp only at hSw); go_simp; try with_reducible rfl)⟩) (by assumption) ?_
        (try simp only [Act.put, List.setIfInBounds_toArray, List.set_cons_zero, List.set_cons_succ])
        refine wpAnyH_done (by kernel_rfl) ?_ _
        go_wp2_with fail
        obtain ⟨f1, f2, f3, f4⟩ := HF.out _ ⟨_, P0.out.drew, rfl⟩
        refine bodyPost_ret (play_results _ _ g3 gx l.toArray true rfl rfl rfl f4 (P0.out.rv.sz)) rfl ?_
        exact ⟨gx, l.toArray, L, M, rfl, P0.out.hx, f1, f2, REL.out, HML1.out, f3⟩
end Go.Proofs.Ythpngafglljgnaa
