/- The laws LedgerPlays and LedgerFresh: their walks. -/
import Derived.Test.YthpngafglljgnaaLPlW
namespace Go.Proofs.Ythpngafglljgnaa
set_option linter.unusedVariables false
set_option linter.unusedSimpArgs false
open Go.RowKit
set_option maxRecDepth 100000 in
set_option maxHeartbeats 8000000 in
theorem plays_any (w : World) (A : Option Addr) (n c : Nat) (la : List Ac) (hnc : n ≤ c) (hcm : c ≤ maxLen) (hv : Acts w A n la) :
    Calls Try.prog 6 #[.slice A n c] w (LawPost w) := by
  have HV := Lib.hid hv
  clear hv
  go_enter Try.func6, Try.ntmps6
  go_wp2_with fail
  refine (awake_any _).mono ?_
  rintro e w1 ⟨rfl, hk⟩
  have K1 := Lib.hid hk
  have HV1 : Hid (Acts w1 A n la) := Lib.hid ⟨HV.out.1, fun hp => by obtain ⟨b, o, h1, h2, h3⟩ := HV.out.2 hp; exact ⟨b, o, h1, Nat.lt_of_lt_of_le h2 hk.size, fun i a hi => (h3 i a hi).keep hk h2 (by simp)⟩⟩
  clear hk
  go_wp2_with fail
  refine (play_any _ A n c la hnc hcm HV1.out).mono ?_
  rintro e w2 ⟨gx, cs, L, M, rfl, hgx, hld, hrv, hrl, hml, hk⟩
  obtain ⟨l, rfl⟩ : ∃ l : List Value, cs = l.toArray := ⟨cs.toList, by simp⟩
  have B3 : Hid (Blk (w2.alloc (.cells zR.toArray TR)) w2.heap.size TR zR.toArray) := Lib.hid (Blk.new _ _ _)
  have RV2 := Lib.hid hrv
  have HLD := Lib.hid hld
  have HGX : Hid (w.heap.size ≤ gx) := Lib.hid (Nat.le_trans K1.out.size hgx)
  have REL := Lib.hid hrl
  have MLX := Lib.hid hml
  have K2 := Lib.hid (K1.out.chain0 (Nat.le_refl _) hk)
  clear hld hrv hrl hml hk hgx
  go_wp2_with (refine wpList_store_mid rfl TR (.tmp 4) (.tmp 12) rfl w2.heap.size 0 l.toArray rfl rfl (B3.out.there 0 _ (by rw [RV2.out.sz]; decide)) (rv_infoA RV2.out) RV2.out.one ?_)
  obtain ⟨W5, hW5⟩ : ∃ W5, W5 = (w2.alloc (.cells zR.toArray TR)).setCells w2.heap.size 0 l := ⟨_, rfl⟩
  obtain ⟨gr, hgr⟩ : ∃ g, g = w2.heap.size := ⟨_, rfl⟩
  have hk5 : Keep w2.heap.size [] w2 W5 := by rw [hW5]; exact Keep.setCells (.inl (Nat.le_refl _)) _ _ _ ((Keep.refl _ _ _).alloc (Nat.le_refl _) _)
  have K5 := Lib.hid (K2.out.chain0 (Nat.le_refl _) hk5)
  have L5 := Lib.hid (HLD.out.keepS hk5 (by simp))
  have R5 := Lib.hid (RV2.out.keep0 hk5)
  have BR : Hid (Blk W5 gr TR l.toArray) := Lib.hid (by rw [hW5, hgr]; exact B3.out.setAll (vs := l.toArray) (by rw [RV2.out.sz]; rfl))
  change Code.wp _ _ _ _ ((w2.alloc (.cells zR.toArray TR)).setCells w2.heap.size 0 l)
  rw [← hW5]
  rw [← hgr]
  clear hW5 hk5 hgr
  obtain ⟨S1, hS1⟩ : ∃ S1, strOfNums (imageL L) = S1 := ⟨_, rfl⟩
  have HIM := Lib.hid REL.out.image
  have HCA : Hid (∀ W A n1 c1 B, B = imageL L → Sl W 5 1 A n1 c1 (octs B) → (convert 33 9 (.slice A n1 c1)).run Try.prog W = .ok (.string S1) W) := Lib.hid (fun W A n1 c1 B hB hs => by
    subst hB
    rw [← hS1]
    exact conv_str 33 9 5 Try.underlying33 Try.underlying5 Try.underlying9 _ _ _ _ (hs.vw (by omega)))
  have INF := Lib.hid (rv_info R5.out)
  have L5d := Lib.hid L5.out.drew
  have K5d := Lib.hid K5.out.drew
  have R5d := Lib.hid (R5.out.keep0 (Keep.refl _ _ _).drew)
  have BRd := Lib.hid BR.out.drew
  have MGX : Hid (MG 100 M) := Lib.hid (REL.out.mg MLX.out)
  clear hS1
  refine wp_region_held_drew (S := (fun w' => w'.rangeAt gr 0 l)) (by kernel_rfl) (by exact BRd.out.range) (fun hHeld => ?_)
  refine wpAnyH_take (i := 0) (oi := { dst := some 14, op := Op.move (Operand.tmp 5), type := 4, pos := _, after := #[], guard := none }) (v := _) rfl (by kernel_rfl) (by kernel_rfl) (by kernel_rfl) (fun _ _ _ h => h) (Or.inl ⟨by rfl, by (intro wS hSw; (try dsimp only at hSw); go_simp; try with_reducible rfl)⟩) (by assumption) ?_
  (try simp only [Act.put, List.setIfInBounds_toArray, List.set_cons_zero, List.set_cons_succ])
  refine wpAnyH_take (i := 1) (oi := { dst := some 15, op := Op.move (Operand.tmp 14), type := 4, pos := _, after := #[{ on := 0, ground := Ground.data }], guard := none }) (v := _) rfl (by kernel_rfl) (by kernel_rfl) (by kernel_rfl) (fun _ _ _ h => h) (Or.inl ⟨by rfl, by (intro wS hSw; (try dsimp only at hSw); go_simp; try with_reducible rfl)⟩) (by assumption) ?_
  (try simp only [Act.put, List.setIfInBounds_toArray, List.set_cons_zero, List.set_cons_succ])
  refine wpAnyH_take (i := 2) (oi := { dst := some 16, op := Op.move (Operand.tmp 3), type := 24, pos := _, after := #[{ on := 1, ground := Ground.guard }], guard := some (1, true) }) (v := _) rfl (by kernel_rfl) (by kernel_rfl) (by kernel_rfl) (fun _ _ _ h => h) (Or.inl ⟨by rfl, by (intro wS hSw; (try dsimp only at hSw); go_simp; try with_reducible rfl)⟩) (by assumption) ?_
  (try simp only [Act.put, List.setIfInBounds_toArray, List.set_cons_zero, List.set_cons_succ])
  refine wpAnyH_take (i := 5) (oi := { dst := some 19, op := Op.load 40 (Operand.tmp 4), type := 40, pos := _, after := #[{ on := 1, ground := Ground.guard }], guard := some (1, true) }) (v := _) rfl (by kernel_rfl) (by kernel_rfl) (by kernel_rfl) (fun _ _ _ h => h) (yieldsIf_load_mid (by rfl) TR (.tmp 4) rfl gr 0 (by rfl) l _ (fun wS hSw => hSw) Try.underlying40 rfl (by exact INF.out)) (by assumption) ?_
  (try simp only [Act.put, List.setIfInBounds_toArray, List.set_cons_zero, List.set_cons_succ])
  refine wpAnyH_ready (rs := [3]) (by kernel_rfl) (by simp) ?_
  refine (AllReadyH.cons (o := { dst := some 17, op := Op.call { callee := Callee.value (Operand.func 15), args := #[Operand.tmp 16], argTypes := #[24] }, type := 33, pos := _, after := #[{ on := 2, ground := Ground.data }, { on := 1, ground := Ground.chain }, { on := 1, ground := Ground.guard }], guard := some (1, true) }) rfl (fun K hK => ?_) AllReadyH.nil)
  go_simp
  refine (image_any _ gx L (by exact L5d.out)).mono ?_
  rintro e w6 ⟨A6, n6, c6, rfl, hn, hs, hk, _⟩
  have K6 := Lib.hid (K5d.out.chain0 (Nat.le_refl _) hk)
  have R6 := Lib.hid (R5d.out.keep0 hk)
  have B6 := Lib.hid (BRd.out.keepS hk (by simp))
  have t6 := HCA.out w6 A6 n6 c6 _ rfl hs
  have S6 := Lib.hid hs
  clear hn hs hk
  refine hK.out _ _ (by exact B6.out.range) (fun hHeld => ?_)
  clear hK K
  (try simp only [Act.put, List.setIfInBounds_toArray, List.set_cons_zero, List.set_cons_succ])
  refine wpAnyH_ready (rs := [4, 6]) (by kernel_rfl) (by simp) ?_
  refine (AllReadyH.cons (o := { dst := some 18, op := Op.convert 33 9 (Operand.tmp 17), type := 9, pos := _, after := #[{ on := 3, ground := Ground.data }, { on := 1, ground := Ground.guard }], guard := some (1, true) }) rfl (fun K hK => ?_) (AllReadyH.cons (o := { dst := some 20, op := Op.call { callee := Callee.value (Operand.func 17), args := #[Operand.tmp 19], argTypes := #[40] }, type := 33, pos := _, after := #[{ on := 5, ground := Ground.data }, { on := 3, ground := Ground.chain }, { on := 1, ground := Ground.guard }], guard := some (1, true) }) rfl (fun K hK => ?_) AllReadyH.nil))
  · go_simp
    refine hK.out _ _ (by exact B6.out.range) (fun hHeld => ?_)
    clear hK K
    (try simp only [Act.put, List.setIfInBounds_toArray, List.set_cons_zero, List.set_cons_succ])
    refine wpAnyH_ready (rs := [6]) (by kernel_rfl) (by simp) ?_
    refine (AllReadyH.cons (o := { dst := some 20, op := Op.call { callee := Callee.value (Operand.func 17), args := #[Operand.tmp 19], argTypes := #[40] }, type := 33, pos := _, after := #[{ on := 5, ground := Ground.data }, { on := 3, ground := Ground.chain }, { on := 1, ground := Ground.guard }], guard := some (1, true) }) rfl (fun K hK => ?_) AllReadyH.nil)
    go_simp
    refine (rimage_any _ l.toArray M 100 (by omega) MGX.out (by exact R6.out)).mono ?_
    rintro e w7 ⟨A7, n7, c7, rfl, hn, hs, hk, _⟩
    have K7 := Lib.hid (K6.out.chain0 (Nat.le_refl _) hk)
    have B7 := Lib.hid (B6.out.keepS hk (by simp))
    have t7 := HCA.out w7 A7 n7 c7 _ HIM.out.symm hs
    have t7' := HCA.out w7 A6 n6 c6 _ rfl (S6.out.keep0 hk)
    clear hn hs hk
    refine hK.out _ _ (by exact B7.out.range) (fun hHeld => ?_)
    clear hK K
    (try simp only [Act.put, List.setIfInBounds_toArray, List.set_cons_zero, List.set_cons_succ])
    refine wpAnyH_ready (rs := [7]) (by kernel_rfl) (by simp) ?_
    refine (AllReadyH.cons (o := { dst := some 21, op := Op.convert 33 9 (Operand.tmp 20), type := 9, pos := _, after := #[{ on := 6, ground := Ground.data }, { on := 1, ground := Ground.guard }], guard := some (1, true) }) rfl (fun K hK => ?_) AllReadyH.nil)
    go_simp
    refine hK.out _ _ (by exact B7.out.range) (fun hHeld => ?_)
    clear hK K
    (try simp only [Act.put, List.setIfInBounds_toArray, List.set_cons_zero, List.set_cons_succ])
    refine wpAnyH_take (i := 8) (oi := { dst := some 22, op := Op.binOp BinOp.eql 9 (Operand.tmp 18) (Operand.tmp 21) 9, type := 4, pos := _, after := #[{ on := 4, ground := Ground.data }, { on := 7, ground := Ground.data }, { on := 1, ground := Ground.guard }], guard := some (1, true) }) (v := _) rfl (by kernel_rfl) (by kernel_rfl) (by kernel_rfl) (fun _ _ _ h => h) (Or.inl ⟨by rfl, by (intro wS hSw; (try dsimp only at hSw); go_simp; try with_reducible rfl)⟩) (by assumption) ?_
    (try simp only [Act.put, List.setIfInBounds_toArray, List.set_cons_zero, List.set_cons_succ])
    refine wpAnyH_take (i := 9) (oi := { dst := some 23, op := Op.pick (Operand.tmp 15) (Operand.tmp 22) (Operand.const (Value.bool false)), type := 4, pos := _, after := #[{ on := 1, ground := Ground.data }, { on := 8, ground := Ground.data }], guard := none }) (v := _) rfl (by kernel_rfl) (by kernel_rfl) (by kernel_rfl) (fun _ _ _ h => h) (Or.inl ⟨by rfl, by (intro wS hSw; (try dsimp only at hSw); go_simp; try with_reducible rfl)⟩) (by assumption) ?_
    (try simp only [Act.put, List.setIfInBounds_toArray, List.set_cons_zero, List.set_cons_succ])
    refine wpAnyH_take (i := 10) (oi := { dst := some 2, op := Op.assign (Operand.tmp 23), type := 4, pos := _, after := #[{ on := 9, ground := Ground.data }, { on := 6, ground := Ground.chain }, { on := 0, ground := Ground.phase }, { on := 1, ground := Ground.phase }, { on := 2, ground := Ground.phase }, { on := 3, ground := Ground.phase }, { on := 4, ground := Ground.phase }, { on := 5, ground := Ground.phase }, { on := 6, ground := Ground.phase }, { on := 7, ground := Ground.phase }, { on := 8, ground := Ground.phase }, { on := 9, ground := Ground.phase }], guard := none }) (v := _) rfl (by kernel_rfl) (by kernel_rfl) (by kernel_rfl) (fun _ _ _ h => h) (Or.inl ⟨by rfl, by (intro wS hSw; (try dsimp only at hSw); go_simp; try with_reducible rfl)⟩) (by assumption) ?_
    (try simp only [Act.put, List.setIfInBounds_toArray, List.set_cons_zero, List.set_cons_succ])
    refine wpAnyH_done (by kernel_rfl) ?_ _
    go_wp2_with fail
    go_ret
    exact ⟨rfl, K7.out⟩
  · go_simp
    refine (rimage_any _ l.toArray M 100 (by omega) MGX.out (by exact R6.out)).mono ?_
    rintro e w7 ⟨A7, n7, c7, rfl, hn, hs, hk, _⟩
    have K7 := Lib.hid (K6.out.chain0 (Nat.le_refl _) hk)
    have B7 := Lib.hid (B6.out.keepS hk (by simp))
    have t7 := HCA.out w7 A7 n7 c7 _ HIM.out.symm hs
    have t7' := HCA.out w7 A6 n6 c6 _ rfl (S6.out.keep0 hk)
    clear hn hs hk
    refine hK.out _ _ (by exact B7.out.range) (fun hHeld => ?_)
    clear hK K
    (try simp only [Act.put, List.setIfInBounds_toArray, List.set_cons_zero, List.set_cons_succ])
    refine wpAnyH_ready (rs := [4, 7]) (by kernel_rfl) (by simp) ?_
    refine (AllReadyH.cons (o := { dst := some 18, op := Op.convert 33 9 (Operand.tmp 17), type := 9, pos := _, after := #[{ on := 3, ground := Ground.data }, { on := 1, ground := Ground.guard }], guard := some (1, true) }) rfl (fun K hK => ?_) (AllReadyH.cons (o := { dst := some 21, op := Op.convert 33 9 (Operand.tmp 20), type := 9, pos := _, after := #[{ on := 6, ground := Ground.data }, { on := 1, ground := Ground.guard }], guard := some (1, true) }) rfl (fun K hK => ?_) AllReadyH.nil))
    · go_simp
      refine hK.out _ _ (by exact B7.out.range) (fun hHeld => ?_)
      clear hK K
      (try simp only [Act.put, List.setIfInBounds_toArray, List.set_cons_zero, List.set_cons_succ])
      refine wpAnyH_ready (rs := [7]) (by kernel_rfl) (by simp) ?_
      refine (AllReadyH.cons (o := { dst := some 21, op := Op.convert 33 9 (Operand.tmp 20), type := 9, pos := _, after := #[{ on := 6, ground := Ground.data }, { on := 1, ground := Ground.guard }], guard := some (1, true) }) rfl (fun K hK => ?_) AllReadyH.nil)
      go_simp
      refine hK.out _ _ (by exact B7.out.range) (fun hHeld => ?_)
      clear hK K
      (try simp only [Act.put, List.setIfInBounds_toArray, List.set_cons_zero, List.set_cons_succ])
      refine wpAnyH_take (i := 8) (oi := { dst := some 22, op := Op.binOp BinOp.eql 9 (Operand.tmp 18) (Operand.tmp 21) 9, type := 4, pos := _, after := #[{ on := 4, ground := Ground.data }, { on := 7, ground := Ground.data }, { on := 1, ground := Ground.guard }], guard := some (1, true) }) (v := _) rfl (by kernel_rfl) (by kernel_rfl) (by kernel_rfl) (fun _ _ _ h => h) (Or.inl ⟨by rfl, by (intro wS hSw; (try dsimp only at hSw); go_simp; try with_reducible rfl)⟩) (by assumption) ?_
      (try simp only [Act.put, List.setIfInBounds_toArray, List.set_cons_zero, List.set_cons_succ])
      refine wpAnyH_take (i := 9) (oi := { dst := some 23, op := Op.pick (Operand.tmp 15) (Operand.tmp 22) (Operand.const (Value.bool false)), type := 4, pos := _, after := #[{ on := 1, ground := Ground.data }, { on := 8, ground := Ground.data }], guard := none }) (v := _) rfl (by kernel_rfl) (by kernel_rfl) (by kernel_rfl) (fun _ _ _ h => h) (Or.inl ⟨by rfl, by (intro wS hSw; (try dsimp only at hSw); go_simp; try with_reducible rfl)⟩) (by assumption) ?_
      (try simp only [Act.put, List.setIfInBounds_toArray, List.set_cons_zero, List.set_cons_succ])
      refine wpAnyH_take (i := 10) (oi := { dst := some 2, op := Op.assign (Operand.tmp 23), type := 4, pos := _, after := #[{ on := 9, ground := Ground.data }, { on := 6, ground := Ground.chain }, { on := 0, ground := Ground.phase }, { on := 1, ground := Ground.phase }, { on := 2, ground := Ground.phase }, { on := 3, ground := Ground.phase }, { on := 4, ground := Ground.phase }, { on := 5, ground := Ground.phase }, { on := 6, ground := Ground.phase }, { on := 7, ground := Ground.phase }, { on := 8, ground := Ground.phase }, { on := 9, ground := Ground.phase }], guard := none }) (v := _) rfl (by kernel_rfl) (by kernel_rfl) (by kernel_rfl) (fun _ _ _ h => h) (Or.inl ⟨by rfl, by (intro wS hSw; (try dsimp only at hSw); go_simp; try with_reducible rfl)⟩) (by assumption) ?_
      (try simp only [Act.put, List.setIfInBounds_toArray, List.set_cons_zero, List.set_cons_succ])
      refine wpAnyH_done (by kernel_rfl) ?_ _
      go_wp2_with fail
      go_ret
      exact ⟨rfl, K7.out⟩
    · go_simp
      refine hK.out _ _ (by exact B7.out.range) (fun hHeld => ?_)
      clear hK K
      (try simp only [Act.put, List.setIfInBounds_toArray, List.set_cons_zero, List.set_cons_succ])
      refine wpAnyH_ready (rs := [4]) (by kernel_rfl) (by simp) ?_
      refine (AllReadyH.cons (o := { dst := some 18, op := Op.convert 33 9 (Operand.tmp 17), type := 9, pos := _, after := #[{ on := 3, ground := Ground.data }, { on := 1, ground := Ground.guard }], guard := some (1, true) }) rfl (fun K hK => ?_) AllReadyH.nil)
      go_simp
      refine hK.out _ _ (by exact B7.out.range) (fun hHeld => ?_)
      clear hK K
      (try simp only [Act.put, List.setIfInBounds_toArray, List.set_cons_zero, List.set_cons_succ])
      refine wpAnyH_take (i := 8) (oi := { dst := some 22, op := Op.binOp BinOp.eql 9 (Operand.tmp 18) (Operand.tmp 21) 9, type := 4, pos := _, after := #[{ on := 4, ground := Ground.data }, { on := 7, ground := Ground.data }, { on := 1, ground := Ground.guard }], guard := some (1, true) }) (v := _) rfl (by kernel_rfl) (by kernel_rfl) (by kernel_rfl) (fun _ _ _ h => h) (Or.inl ⟨by rfl, by (intro wS hSw; (try dsimp only at hSw); go_simp; try with_reducible rfl)⟩) (by assumption) ?_
      (try simp only [Act.put, List.setIfInBounds_toArray, List.set_cons_zero, List.set_cons_succ])
      refine wpAnyH_take (i := 9) (oi := { dst := some 23, op := Op.pick (Operand.tmp 15) (Operand.tmp 22) (Operand.const (Value.bool false)), type := 4, pos := _, after := #[{ on := 1, ground := Ground.data }, { on := 8, ground := Ground.data }], guard := none }) (v := _) rfl (by kernel_rfl) (by kernel_rfl) (by kernel_rfl) (fun _ _ _ h => h) (Or.inl ⟨by rfl, by (intro wS hSw; (try dsimp only at hSw); go_simp; try with_reducible rfl)⟩) (by assumption) ?_
      (try simp only [Act.put, List.setIfInBounds_toArray, List.set_cons_zero, List.set_cons_succ])
      refine wpAnyH_take (i := 10) (oi := { dst := some 2, op := Op.assign (Operand.tmp 23), type := 4, pos := _, after := #[{ on := 9, ground := Ground.data }, { on := 6, ground := Ground.chain }, { on := 0, ground := Ground.phase }, { on := 1, ground := Ground.phase }, { on := 2, ground := Ground.phase }, { on := 3, ground := Ground.phase }, { on := 4, ground := Ground.phase }, { on := 5, ground := Ground.phase }, { on := 6, ground := Ground.phase }, { on := 7, ground := Ground.phase }, { on := 8, ground := Ground.phase }, { on := 9, ground := Ground.phase }], guard := none }) (v := _) rfl (by kernel_rfl) (by kernel_rfl) (by kernel_rfl) (fun _ _ _ h => h) (Or.inl ⟨by rfl, by (intro wS hSw; (try dsimp only at hSw); go_simp; try with_reducible rfl)⟩) (by assumption) ?_
      (try simp only [Act.put, List.setIfInBounds_toArray, List.set_cons_zero, List.set_cons_succ])
      refine wpAnyH_done (by kernel_rfl) ?_ _
      go_wp2_with fail
      go_ret
      exact ⟨rfl, K7.out⟩
set_option maxRecDepth 100000 in
set_option maxHeartbeats 8000000 in
theorem fresh_any (w : World) (A : Option Addr) (n c : Nat) (la : List Ac) (s m : Int) (hnc : n ≤ c) (hcm : c ≤ maxLen) (hv : Acts w A n la) :
    Calls Try.prog 7 #[.slice A n c, .int .i64 s, .int .i64 m] w (LawPost w) := by
  have HV := Lib.hid hv
  clear hv
  go_enter Try.func7, Try.ntmps7
  go_wp2_with fail
  refine (awake_any _).mono ?_
  rintro e w1 ⟨rfl, hk⟩
  have K1 := Lib.hid hk
  have HV1 : Hid (Acts w1 A n la) := Lib.hid ⟨HV.out.1, fun hp => by obtain ⟨b, o, h1, h2, h3⟩ := HV.out.2 hp; exact ⟨b, o, h1, Nat.lt_of_lt_of_le h2 hk.size, fun i a hi => (h3 i a hi).keep hk h2 (by simp)⟩⟩
  clear hk
  go_wp2_with fail
  refine (play_any _ A n c la hnc hcm HV1.out).mono ?_
  rintro e w2 ⟨gx, cs, L, M, rfl, hgx, hld, hrv, hrl, hml, hk⟩
  obtain ⟨l, rfl⟩ : ∃ l : List Value, cs = l.toArray := ⟨cs.toList, by simp⟩
  have B3 : Hid (Blk (w2.alloc (.cells zR.toArray TR)) w2.heap.size TR zR.toArray) := Lib.hid (Blk.new _ _ _)
  have RV2 := Lib.hid hrv
  have HLD := Lib.hid hld
  have HGX : Hid (w.heap.size ≤ gx) := Lib.hid (Nat.le_trans K1.out.size hgx)
  have REL := Lib.hid hrl
  have MLX := Lib.hid hml
  have K2 := Lib.hid (K1.out.chain0 (Nat.le_refl _) hk)
  clear hld hrv hrl hml hk hgx
  go_wp2_with (refine wpList_store_mid rfl TR (.tmp 8) (.tmp 16) rfl w2.heap.size 0 l.toArray rfl rfl (B3.out.there 0 _ (by rw [RV2.out.sz]; decide)) (rv_infoA RV2.out) RV2.out.one ?_)
  obtain ⟨W5, hW5⟩ : ∃ W5, W5 = (w2.alloc (.cells zR.toArray TR)).setCells w2.heap.size 0 l := ⟨_, rfl⟩
  obtain ⟨gr, hgr⟩ : ∃ g, g = w2.heap.size := ⟨_, rfl⟩
  have hk5 : Keep w2.heap.size [] w2 W5 := by rw [hW5]; exact Keep.setCells (.inl (Nat.le_refl _)) _ _ _ ((Keep.refl _ _ _).alloc (Nat.le_refl _) _)
  have K5 := Lib.hid (K2.out.chain0 (Nat.le_refl _) hk5)
  have L5 := Lib.hid (HLD.out.keepS hk5 (by simp))
  have R5 := Lib.hid (RV2.out.keep0 hk5)
  have BR : Hid (Blk W5 gr TR l.toArray) := Lib.hid (by rw [hW5, hgr]; exact B3.out.setAll (vs := l.toArray) (by rw [RV2.out.sz]; rfl))
  change Calls _ _ _ ((w2.alloc (.cells zR.toArray TR)).setCells w2.heap.size 0 l) _
  rw [← hW5]
  rw [← hgr]
  clear hW5 hk5 hgr
  cases hr : rightP s m with
  | false =>
    have HR := Lib.hid hr
    clear hr
    refine (right_any _ s m false HR.out).mono ?_
    rintro e w' ⟨rfl, rfl⟩
    go_wp2_with fail
    go_ret
    exact ⟨rfl, K5.out⟩
  | true =>
    have HR := Lib.hid hr
    unfold rightP at hr
    rw [Bool.and_eq_true] at hr
    have HS := Lib.hid hr.1
    have HM := Lib.hid hr.2
    clear hr
    obtain ⟨v, hv⟩ : ∃ v, newestL L s = v := ⟨_, rfl⟩
    have HVL := Lib.hid hv
    by_cases hle : m ≤ v
    · clear hv
      refine (right_any _ s m true HR.out).mono ?_
      rintro e w' ⟨rfl, rfl⟩
      go_wp2_with fail
      refine (newest_any _ gx L s v HVL.out L5.out).mono ?_
      rintro e w' ⟨rfl, rfl⟩
      go_wp2_with fail
      go_ret
      exact ⟨rfl, K5.out⟩
    · obtain ⟨h1, L', h2, h3⟩ := fresh REL.out HS.out HM.out (by rw [hv]; omega)
      have H1 := Lib.hid h1
      have H2 := Lib.hid h2
      have H3 := Lib.hid h3
      have hle' : v < m := by omega
      clear hv h1 h2 h3
      refine (right_any _ s m true HR.out).mono ?_
      rintro e w' ⟨rfl, rfl⟩
      go_wp2_with fail
      refine (newest_any _ gx L s v HVL.out L5.out).mono ?_
      rintro e w' ⟨rfl, rfl⟩
      go_wp2_with fail
      refine (seenl_any _ gx L s m false H1.out L5.out).mono ?_
      rintro e w6 ⟨rfl, hk⟩
      have L6 := Lib.hid (L5.out.keepS hk (by simp))
      have K6 := Lib.hid (K5.out.chain0 (Nat.le_refl _) hk)
      clear hk
      go_wp2_with fail
      refine (mark_any _ gx L s m _ H2.out L6.out).mono ?_
      rintro e w7 ⟨rfl, hl, hk⟩
      have L7 := Lib.hid hl
      have K7 := Lib.hid (K6.out.chain1 (Nat.le_refl _) hk HGX.out)
      clear hl hk
      go_wp2_with fail
      refine (newest_any _ gx L' s m H3.out L7.out).mono ?_
      rintro e w' ⟨rfl, rfl⟩
      go_wp2_with fail
      go_ret
      exact ⟨rfl, K7.out⟩
end Go.Proofs.Ythpngafglljgnaa
