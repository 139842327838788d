/- The reference's TakeInt: its contract. -/
import Derived.Test.YtijionfhnoffcaaRefI
import Derived.Test.YtijionfhnoffcaaOctE
namespace Go.Proofs.Ytijionfhnoffcaa
set_option linter.unusedVariables false
set_option linter.unusedSimpArgs false
open Go.RowKit
theorem strOf_inj {a b : List Int} (ha : Oct a) (hb : Oct b) (h : strOfNums a = strOfNums b) : a = b := by
  have h1 := congrArg (fun s => s.data.toList) h
  simp only [strOfNums_data] at h1
  have key : ∀ (a b : List Int), Oct a → Oct b → (a.map fun n => UInt8.ofNat n.toNat) = (b.map fun n => UInt8.ofNat n.toNat) → a = b := by
    intro a
    induction a with
    | nil => intro b _ _ h; cases b with
      | nil => rfl
      | cons y b => simp at h
    | cons x a ih =>
      intro b ha hb h
      cases b with
      | nil => simp at h
      | cons y b =>
        simp only [List.map_cons, List.cons.injEq] at h
        have hx := ha x (by simp)
        have hy := hb y (by simp)
        have e : x = y := by
          have := congrArg UInt8.toNat h.1
          simp at this
          omega
        rw [e, ih b (fun z hz => ha z (by simp [hz])) (fun z hz => hb z (by simp [hz])) h.2]
  exact key a b ha hb h1
theorem refint_z (w : World) (n : Int) (Z : Nat) (hz : (zz n).toNat = Z) (h0 : -9223372036854775808 ≤ n) (h1 : n ≤ 9223372036854775807) :
    Calls Try.prog 24 #[.int .i64 n] w (NewOcts w (vn Z)) := hz ▸ refint_any w n h0 h1
theorem strOf_beq {a b : List Int} (ha : Oct a) (hb : Oct b) : ((strOfNums a).toList == (strOfNums b).toList) = decide (a = b) := by
  rw [ByteArray.toList_eq, ByteArray.toList_eq]
  by_cases h : a = b
  · subst h; simp
  · have : (strOfNums a).data.toList ≠ (strOfNums b).data.toList := fun e => h (strOf_inj ha hb (by
      have : (strOfNums a).data = (strOfNums b).data := Array.toList_inj.1 e
      cases ha' : strOfNums a; cases hb' : strOfNums b; simp_all))
    simp only [h, decide_false]
    exact beq_false_of_ne this
theorem tkI_of {L : List Int} {z k : Nat} (h : grp 0 0 L = (z, k)) (hk : k ≠ 0) : tkI L = (uz z, k) := by
  unfold tkI; rw [h]; simp [hk]
theorem tkI_of0 {L : List Int} {z : Nat} (h : grp 0 0 L = (z, 0)) : tkI L = (0, 0) := by
  unfold tkI; rw [h]; simp
theorem grp_eq_of (L : List Int) (Z k : Nat) (hZ : Z < 18446744073709551616) (h : vn Z = L.take k) (hk : k ≤ L.length) : grp 0 0 L = (Z, k) := by
  have h1 := grp_vn Z 0 0 (L.drop k) (by omega) (by simpa using hZ) (.inl rfl)
  rw [h, List.take_append_drop] at h1
  rw [h1]
  simp; omega
theorem grp_ne_of (L : List Int) (k acc : Nat) (x : Int) (M : List Int) (hO : Oct L) (hg : grp k acc (x :: M) = grp 0 0 L) (hx : x < 128)
    (h : vn ((acc + (x % 128).toNat * 128 ^ k) % 18446744073709551616) ≠ L.take (k + 1)) : ∃ z, grp 0 0 L = (z, 0) := by
  rw [grp_step] at hg
  by_cases h9 : k = 9 ∧ 1 < x
  · rw [if_pos h9] at hg; exact ⟨0, hg.symm⟩
  · rw [if_neg h9, if_pos hx] at hg
    by_cases hz : x = 0 ∧ 0 < k
    · rw [if_pos hz] at hg; exact ⟨0, hg.symm⟩
    · rw [if_neg hz] at hg
      obtain ⟨h1, h2, _⟩ := grp_lt L _ _ hO hg.symm (by omega)
      rw [Nat.mod_eq_of_lt h2] at h
      exact absurd h1.symm h
theorem z_next (acc y k : Nat) : IntKind.u64.wrap ((acc : Int) + IntKind.u64.wrap (((128 ^ k : Nat) : Int) * (y : Int))) = (((acc + y * 128 ^ k) % 18446744073709551616 : Nat) : Int) := by
  simp only [IntKind.wrap_u64]
  have e : (((128 ^ k : Nat) : Int) * (y : Int)) = ((y * 128 ^ k : Nat) : Int) := by rw [Int.natCast_mul, Int.mul_comm]
  rw [e]
  omega
set_option maxRecDepth 10000 in
set_option maxHeartbeats 4000000 in
theorem takeint_r (w : World) (X : Option Addr) (m c : Nat) (L : List Int) (r : Int × Nat) (hO : Oct L) (hv : Vw w X m 1 (octs L)) (hmc : m ≤ c) (hcm : c ≤ maxLen) (hr : tkI L = r) :
    Calls Try.prog 53 #[.slice X m c] w fun e w' => e = .returned (.tuple #[.int .i64 r.1, .int .i64 (r.2 : Int)]) ∧ Keep w.heap.size [] w w' := by
  have hlm : L.length = m := by simpa [octs] using hv.1
  have hmc' : (m : Int) ≤ (c : Int) := by omega
  have hcm' : (c : Int) ≤ 9223372036854775807 := by unfold maxLen at hcm; omega
  have HM := Lib.hid hlm
  have HV := Lib.hid hv
  have HO := Lib.hid hO
  have HR := Lib.hid hr
  clear hlm hv hO hcm hr
  go_enter Try.func53, Try.ntmps53
  go_wp2_with fail
  go_loop [4, 5, 6] (fun z s i => ∃ k v sv : Nat, k ≤ m ∧ k ≤ 10 ∧ v < 18446744073709551616 ∧ sv < 18446744073709551616 ∧ i = .int .i64 k ∧ z = .int .u64 (v : Int) ∧ s = .int .u64 (sv : Int) ∧
      (k ≤ 9 → v < 128 ^ k ∧ sv = 128 ^ k ∧ grp k v (L.drop k) = grp 0 0 L) ∧ (k = 10 → grp 0 0 L = (0, 0))) (fun _ _ i => 10 - (intOf i).toNat)
  case atStart => exact ⟨0, 0, 1, Nat.zero_le _, by omega, by omega, by omega, rfl, rfl, rfl, fun _ => ⟨by simp, rfl, rfl⟩, fun h => by omega⟩
  case round =>
    obtain ⟨k, v, sv, hk, hk10, hv0, hs0, rfl, rfl, rfl, h9, h10⟩ := hrel
    have H9 := Lib.hid h9
    have H10 := Lib.hid h10
    clear h9 h10
    by_cases hlt : k < m ∧ k < 10
    · obtain ⟨hlt, hlt10⟩ := hlt
      obtain ⟨ha, hsv, hg⟩ := H9.out (by omega)
      obtain ⟨bx, ox, rfl, hbx, hcells⟩ := HV.out.2 (by omega)
      obtain ⟨x, hx⟩ : ∃ x, L[k]? = some x := ⟨L[k]'(by have := HM.out; omega), List.getElem?_eq_getElem _⟩
      have c0 : w.cell? ⟨bx, ox + k, none⟩ = some (.int .u8 x) := hcells k _ (by rw [List.getElem?_map, hx]; rfl)
      obtain ⟨x0, x1⟩ := HO.out x (List.mem_of_getElem? hx)
      have hd : L.drop k = x :: L.drop (k + 1) := by
        obtain ⟨h1, rfl⟩ := List.getElem?_eq_some_iff.1 hx
        exact List.drop_eq_getElem_cons h1
      rw [hd] at hg
      clear hcells hx hd
      obtain ⟨y, hy⟩ : ∃ y : Nat, (x % 128).toNat = y := ⟨_, rfl⟩
      have hxy : x % 128 = (y : Int) := by omega
      have hz := z_next v y k
      rw [← hsv] at hz
      obtain ⟨Z, hZ⟩ : ∃ Z : Nat, (v + y * 128 ^ k) % 18446744073709551616 = Z := ⟨_, rfl⟩
      rw [← hsv] at hZ
      rw [hZ] at hz
      have hZb : Z < 18446744073709551616 := by omega
      obtain ⟨T, hT⟩ : ∃ T : Nat, IntKind.u64.wrap ((sv : Int) * 128) = (T : Int) := ⟨(IntKind.u64.wrap ((sv : Int) * 128)).toNat, by rw [IntKind.wrap_u64]; omega⟩
      have e1 : IntKind.u64.wrap (x % 128) = x % 128 := u64_in _ (by omega) (by omega)
      rw [← hxy] at hz
      have hkm : (k : Int) < (m : Int) := by omega
      have hk1 : (k : Int) < 10 := by omega
      have hkc : (k : Int) + 1 ≤ (c : Int) := by omega
      have HXY := Lib.hid hxy
      have HZ := Lib.hid hZ
      have HG := Lib.hid hg
      have HA := Lib.hid ha
      have HSV := Lib.hid hsv
      have HY := Lib.hid hy
      have HT := Lib.hid hT
      clear hZ hg ha hsv hy hxy
      by_cases hx : 128 ≤ x
      · go_wp2_with fail
        go_round
        case rel =>
          refine ⟨k + 1, Z, T, by omega, by omega, hZb, ?_, by go_num, rfl, rfl, fun h => ?_, fun h => ?_⟩
          · have := HT.out; rw [IntKind.wrap_u64] at this; omega
          · have hg := HG.out
            rw [grp_step, if_neg (by omega), if_neg (by omega), HY.out] at hg
            have hzz := HZ.out
            rw [HSV.out] at hzz
            have hn := acc_next k v x HA.out
            rw [HY.out] at hn
            have hp : 128 ^ (k + 1) ≤ 9223372036854775808 := by
              have : k = 0 ∨ k = 1 ∨ k = 2 ∨ k = 3 ∨ k = 4 ∨ k = 5 ∨ k = 6 ∨ k = 7 ∨ k = 8 := by omega
              rcases this with rfl | rfl | rfl | rfl | rfl | rfl | rfl | rfl | rfl <;> decide
            rw [Nat.mod_eq_of_lt (by omega)] at hzz
            rw [hzz] at hn hg
            refine ⟨hn, ?_, hg⟩
            have ht := HT.out
            rw [HSV.out, IntKind.wrap_u64] at ht
            rw [Nat.pow_succ] at hp ⊢
            omega
          · have hg := HG.out
            have e : k = 9 := by omega
            rw [grp_step, if_pos (by omega)] at hg
            exact hg.symm
        case measure => simp [intOf]; omega
      · have HCV : Hid (∀ W, Vw W (some ⟨bx, ox, none⟩) m 1 (octs L) → (convert 24 9 (.slice (some ⟨bx, ox, none⟩) (k + 1) c)).run Try.prog W = .ok (.string (strOfNums (L.take (k + 1)))) W) := fun W hW => by
          have h1 := hW.take (k := k + 1) (by omega)
          rw [octs, ← List.map_take] at h1
          exact conv_str 24 9 5 Try.underlying24 Try.underlying5 Try.underlying9 _ _ _ _ h1
        obtain ⟨S1, hS1⟩ : ∃ S1, strOfNums (vn Z) = S1 := ⟨_, rfl⟩
        obtain ⟨S2, hS2⟩ : ∃ S2, strOfNums (L.take (k + 1)) = S2 := ⟨_, rfl⟩
        rw [hS2] at HCV
        have HS1 := Lib.hid hS1
        have HS2 := Lib.hid hS2
        have hsz1 : S1.size ≤ 10 := by rw [← hS1, strOfNums_size]; exact vn_len10 Z hZb
        have hsz2 : S2.size ≤ 10 := by rw [← hS2, strOfNums_size]; simp; omega
        have HCA : Hid (∀ W A n c1, Sl W 5 1 A n c1 (octs (vn Z)) → (convert 24 9 (.slice A n c1)).run Try.prog W = .ok (.string S1) W) := fun W A n c1 hs => by
          rw [← hS1]
          exact conv_str 24 9 5 Try.underlying24 Try.underlying5 Try.underlying9 _ _ _ _ (hs.vw (by omega))
        clear hS1 hS2
        have s0 := HCV.out w HV.out
        have hk01 : (0 : Int) ≤ (k : Int) + 1 := by omega
        have hkw : IntKind.i64.wrap ((k : Int) + 1) = (k : Int) + 1 := IntWalk.i64_in _ (by omega)
        have s0d := HCV.out w.drew HV.out
        have hcmp := strOf_beq (vn_oct Z) (fun a ha => HO.out a (List.mem_of_mem_take ha) : Oct (L.take (k + 1)))
        rw [HS1.out, HS2.out] at hcmp
        by_cases hq : vn Z = L.take (k + 1)
        · rw [decide_eq_true hq] at hcmp
          rcases Nat.mod_two_eq_zero_or_one Z with hpar | hpar
          · have hp : ((Z : Int) % 2 == 1) = false := beq_false_of_ne (by omega)
            have hr : r = ((Z : Int) / 2, k + 1) := by
              rw [← HR.out]
              rw [tkI_of (grp_eq_of L Z (k + 1) hZb hq (by have := HM.out; omega)) (by omega), uz]
              rw [if_pos hpar]; rfl
            subst hr
            have HP := Lib.hid hpar
            clear hpar hq
            go_wp2_with fail
            refine wp_region_held_drew (S := (fun w' => (convert 24 9 (.slice (some ⟨bx, ox, none⟩) (k + 1) c)).run Try.prog w' = .ok (.string S2) w')) (by kernel_rfl) (by exact s0d) (fun hHeld => ?_)
            refine wpAnyH_take (i := 0) (oi := { dst := some 44, op := Op.move (Operand.tmp 7), type := 3, pos := _, after := #[], guard := none }) (v := _) rfl (by kernel_rfl) (by kernel_rfl) (by kernel_rfl) (fun _ _ _ h => h) (Or.inl ⟨by rfl, by (intro wS hSw; (try dsimp only at hSw); go_simp; try with_reducible rfl)⟩) (by assumption) ?_
            (try simp only [Act.put, List.setIfInBounds_toArray, List.set_cons_zero, List.set_cons_succ])
            refine wpAnyH_take (i := 3) (oi := { dst := some 47, op := Op.move (Operand.tmp 0), type := 24, pos := _, after := #[], guard := none }) (v := _) rfl (by kernel_rfl) (by kernel_rfl) (by kernel_rfl) (fun _ _ _ h => h) (Or.inl ⟨by rfl, by (intro wS hSw; (try dsimp only at hSw); go_simp; try with_reducible rfl)⟩) (by assumption) ?_
            (try simp only [Act.put, List.setIfInBounds_toArray, List.set_cons_zero, List.set_cons_succ])
            refine wpAnyH_take (i := 4) (oi := { dst := some 48, op := Op.move (Operand.tmp 6), type := 3, pos := _, after := #[], guard := none }) (v := _) rfl (by kernel_rfl) (by kernel_rfl) (by kernel_rfl) (fun _ _ _ h => h) (Or.inl ⟨by rfl, by (intro wS hSw; (try dsimp only at hSw); go_simp; try with_reducible rfl)⟩) (by assumption) ?_
            (try simp only [Act.put, List.setIfInBounds_toArray, List.set_cons_zero, List.set_cons_succ])
            refine wpAnyH_take (i := 5) (oi := { dst := some 49, op := Op.binOp BinOp.add 3 (Operand.tmp 48) (Operand.const (Value.int IntKind.i64 1)) 3, type := 3, pos := _, after := #[{ on := 4, ground := Ground.data }], guard := none }) (v := _) rfl (by kernel_rfl) (by kernel_rfl) (by kernel_rfl) (fun _ _ _ h => h) (Or.inl ⟨by rfl, by (intro wS hSw; (try dsimp only at hSw); go_simp; try with_reducible rfl)⟩) (by assumption) ?_
            (try simp only [Act.put, List.setIfInBounds_toArray, List.set_cons_zero, List.set_cons_succ])
            refine wpAnyH_take (i := 6) (oi := { dst := some 50, op := Op.slice 24 (Operand.tmp 47) none (some (Operand.tmp 49)) none, type := 24, pos := _, after := #[{ on := 3, ground := Ground.data }, { on := 5, ground := Ground.data }], guard := none }) (v := _) rfl (by kernel_rfl) (by kernel_rfl) (by kernel_rfl) (fun _ _ _ h => h) (Or.inl ⟨by rfl, by (intro wS hSw; (try dsimp only at hSw); go_simp; try with_reducible rfl)⟩) (by assumption) ?_
            (try simp only [Act.put, List.setIfInBounds_toArray, List.set_cons_zero, List.set_cons_succ])
            refine wpAnyH_take (i := 7) (oi := { dst := some 51, op := Op.convert 24 9 (Operand.tmp 50), type := 9, pos := _, after := #[{ on := 6, ground := Ground.data }], guard := none }) (v := _) rfl (by kernel_rfl) (by kernel_rfl) (by kernel_rfl) (fun _ _ _ h => h) (Or.inl ⟨by rfl, by (intro wS hSw; (try dsimp only at hSw); go_simp; try with_reducible rfl)⟩) (by assumption) ?_
            (try simp only [Act.put, List.setIfInBounds_toArray, List.set_cons_zero, List.set_cons_succ])
            refine wpAnyH_ready (rs := [1]) (by kernel_rfl) (by simp) ?_
            refine AllReadyH.cons (o := { dst := some 45, op := Op.call { callee := Callee.value (Operand.func 24), args := #[Operand.tmp 44], argTypes := #[3] }, type := 24, pos := _, after := #[{ on := 0, ground := Ground.data }], guard := none }) rfl (fun K hK => ?_) AllReadyH.nil
            go_simp
            refine (refint_z _ _ Z (by have := HP.out; unfold zz; split <;> omega) (by omega) (by omega)).mono ?_
            rintro e w1 ⟨A, n, c1, rfl, hn, hs, hk, hb⟩
            have s1 := HCV.out w1 (HV.out.drew.keep0 hk)
            have s2 := HCA.out w1 _ _ _ hs
            have HK1 := Lib.hid hk
            clear hn hs hk hb
            refine hK.out _ _ (by exact s1) (fun hHeld => ?_)
            clear hK K
            (try simp only [Act.put, List.setIfInBounds_toArray, List.set_cons_zero, List.set_cons_succ])
            refine wpAnyH_ready (rs := [2]) (by kernel_rfl) (by simp) ?_
            refine AllReadyH.cons (o := { dst := some 46, op := Op.convert 24 9 (Operand.tmp 45), type := 9, pos := _, after := #[{ on := 1, ground := Ground.data }], guard := none }) rfl (fun K hK => ?_) AllReadyH.nil
            go_simp
            refine hK.out _ _ (by exact s1) (fun hHeld => ?_)
            clear hK K
            (try simp only [Act.put, List.setIfInBounds_toArray, List.set_cons_zero, List.set_cons_succ])
            refine wpAnyH_take (i := 8) (oi := { dst := some 52, op := Op.binOp BinOp.neq 9 (Operand.tmp 46) (Operand.tmp 51) 9, type := 4, pos := _, after := #[{ on := 2, ground := Ground.data }, { on := 7, ground := Ground.data }], guard := none }) (v := _) rfl (by kernel_rfl) (by kernel_rfl) (by kernel_rfl) (fun _ _ _ h => h) (Or.inl ⟨by rfl, by (intro wS hSw; (try dsimp only at hSw); go_simp; try with_reducible rfl)⟩) (by assumption) ?_
            (try simp only [Act.put, List.setIfInBounds_toArray, List.set_cons_zero, List.set_cons_succ])
            refine wpAnyH_done (by kernel_rfl) ?_ _
            go_wp2_with fail
            go_ret2
            exact ⟨rfl, HK1.out.undrew⟩
          · have hp : ((Z : Int) % 2 == 1) = true := beq_iff_eq.2 (by omega)
            have hr : r = (-((Z : Int) / 2) - 1, k + 1) := by
              rw [← HR.out]
              rw [tkI_of (grp_eq_of L Z (k + 1) hZb hq (by have := HM.out; omega)) (by omega), uz]
              rw [if_neg (by omega)]; rfl
            subst hr
            have HP := Lib.hid hpar
            clear hpar hq
            go_wp2_with fail
            refine wp_region_held_drew (S := (fun w' => (convert 24 9 (.slice (some ⟨bx, ox, none⟩) (k + 1) c)).run Try.prog w' = .ok (.string S2) w')) (by kernel_rfl) (by exact s0d) (fun hHeld => ?_)
            refine wpAnyH_take (i := 0) (oi := { dst := some 44, op := Op.move (Operand.tmp 7), type := 3, pos := _, after := #[], guard := none }) (v := _) rfl (by kernel_rfl) (by kernel_rfl) (by kernel_rfl) (fun _ _ _ h => h) (Or.inl ⟨by rfl, by (intro wS hSw; (try dsimp only at hSw); go_simp; try with_reducible rfl)⟩) (by assumption) ?_
            (try simp only [Act.put, List.setIfInBounds_toArray, List.set_cons_zero, List.set_cons_succ])
            refine wpAnyH_take (i := 3) (oi := { dst := some 47, op := Op.move (Operand.tmp 0), type := 24, pos := _, after := #[], guard := none }) (v := _) rfl (by kernel_rfl) (by kernel_rfl) (by kernel_rfl) (fun _ _ _ h => h) (Or.inl ⟨by rfl, by (intro wS hSw; (try dsimp only at hSw); go_simp; try with_reducible rfl)⟩) (by assumption) ?_
            (try simp only [Act.put, List.setIfInBounds_toArray, List.set_cons_zero, List.set_cons_succ])
            refine wpAnyH_take (i := 4) (oi := { dst := some 48, op := Op.move (Operand.tmp 6), type := 3, pos := _, after := #[], guard := none }) (v := _) rfl (by kernel_rfl) (by kernel_rfl) (by kernel_rfl) (fun _ _ _ h => h) (Or.inl ⟨by rfl, by (intro wS hSw; (try dsimp only at hSw); go_simp; try with_reducible rfl)⟩) (by assumption) ?_
            (try simp only [Act.put, List.setIfInBounds_toArray, List.set_cons_zero, List.set_cons_succ])
            refine wpAnyH_take (i := 5) (oi := { dst := some 49, op := Op.binOp BinOp.add 3 (Operand.tmp 48) (Operand.const (Value.int IntKind.i64 1)) 3, type := 3, pos := _, after := #[{ on := 4, ground := Ground.data }], guard := none }) (v := _) rfl (by kernel_rfl) (by kernel_rfl) (by kernel_rfl) (fun _ _ _ h => h) (Or.inl ⟨by rfl, by (intro wS hSw; (try dsimp only at hSw); go_simp; try with_reducible rfl)⟩) (by assumption) ?_
            (try simp only [Act.put, List.setIfInBounds_toArray, List.set_cons_zero, List.set_cons_succ])
            refine wpAnyH_take (i := 6) (oi := { dst := some 50, op := Op.slice 24 (Operand.tmp 47) none (some (Operand.tmp 49)) none, type := 24, pos := _, after := #[{ on := 3, ground := Ground.data }, { on := 5, ground := Ground.data }], guard := none }) (v := _) rfl (by kernel_rfl) (by kernel_rfl) (by kernel_rfl) (fun _ _ _ h => h) (Or.inl ⟨by rfl, by (intro wS hSw; (try dsimp only at hSw); go_simp; try with_reducible rfl)⟩) (by assumption) ?_
            (try simp only [Act.put, List.setIfInBounds_toArray, List.set_cons_zero, List.set_cons_succ])
            refine wpAnyH_take (i := 7) (oi := { dst := some 51, op := Op.convert 24 9 (Operand.tmp 50), type := 9, pos := _, after := #[{ on := 6, ground := Ground.data }], guard := none }) (v := _) rfl (by kernel_rfl) (by kernel_rfl) (by kernel_rfl) (fun _ _ _ h => h) (Or.inl ⟨by rfl, by (intro wS hSw; (try dsimp only at hSw); go_simp; try with_reducible rfl)⟩) (by assumption) ?_
            (try simp only [Act.put, List.setIfInBounds_toArray, List.set_cons_zero, List.set_cons_succ])
            refine wpAnyH_ready (rs := [1]) (by kernel_rfl) (by simp) ?_
            refine AllReadyH.cons (o := { dst := some 45, op := Op.call { callee := Callee.value (Operand.func 24), args := #[Operand.tmp 44], argTypes := #[3] }, type := 24, pos := _, after := #[{ on := 0, ground := Ground.data }], guard := none }) rfl (fun K hK => ?_) AllReadyH.nil
            go_simp
            refine (refint_z _ _ Z (by have := HP.out; unfold zz; split <;> omega) (by omega) (by omega)).mono ?_
            rintro e w1 ⟨A, n, c1, rfl, hn, hs, hk, hb⟩
            have s1 := HCV.out w1 (HV.out.drew.keep0 hk)
            have s2 := HCA.out w1 _ _ _ hs
            have HK1 := Lib.hid hk
            clear hn hs hk hb
            refine hK.out _ _ (by exact s1) (fun hHeld => ?_)
            clear hK K
            (try simp only [Act.put, List.setIfInBounds_toArray, List.set_cons_zero, List.set_cons_succ])
            refine wpAnyH_ready (rs := [2]) (by kernel_rfl) (by simp) ?_
            refine AllReadyH.cons (o := { dst := some 46, op := Op.convert 24 9 (Operand.tmp 45), type := 9, pos := _, after := #[{ on := 1, ground := Ground.data }], guard := none }) rfl (fun K hK => ?_) AllReadyH.nil
            go_simp
            refine hK.out _ _ (by exact s1) (fun hHeld => ?_)
            clear hK K
            (try simp only [Act.put, List.setIfInBounds_toArray, List.set_cons_zero, List.set_cons_succ])
            refine wpAnyH_take (i := 8) (oi := { dst := some 52, op := Op.binOp BinOp.neq 9 (Operand.tmp 46) (Operand.tmp 51) 9, type := 4, pos := _, after := #[{ on := 2, ground := Ground.data }, { on := 7, ground := Ground.data }], guard := none }) (v := _) rfl (by kernel_rfl) (by kernel_rfl) (by kernel_rfl) (fun _ _ _ h => h) (Or.inl ⟨by rfl, by (intro wS hSw; (try dsimp only at hSw); go_simp; try with_reducible rfl)⟩) (by assumption) ?_
            (try simp only [Act.put, List.setIfInBounds_toArray, List.set_cons_zero, List.set_cons_succ])
            refine wpAnyH_done (by kernel_rfl) ?_ _
            go_wp2_with fail
            go_ret2
            exact ⟨rfl, HK1.out.undrew⟩
        · rw [decide_eq_false hq] at hcmp
          rcases Nat.mod_two_eq_zero_or_one Z with hpar | hpar
          · have hp : ((Z : Int) % 2 == 1) = false := beq_false_of_ne (by omega)
            have hr : r = (0, 0) := by
              rw [← HR.out]
              obtain ⟨z, hz⟩ := grp_ne_of L k v x _ HO.out HG.out (by omega) (by rw [HY.out, ← HSV.out, HZ.out]; exact hq)
              exact tkI_of0 hz
            subst hr
            have HP := Lib.hid hpar
            clear hpar hq
            go_wp2_with fail
            refine wp_region_held_drew (S := (fun w' => (convert 24 9 (.slice (some ⟨bx, ox, none⟩) (k + 1) c)).run Try.prog w' = .ok (.string S2) w')) (by kernel_rfl) (by exact s0d) (fun hHeld => ?_)
            refine wpAnyH_take (i := 0) (oi := { dst := some 44, op := Op.move (Operand.tmp 7), type := 3, pos := _, after := #[], guard := none }) (v := _) rfl (by kernel_rfl) (by kernel_rfl) (by kernel_rfl) (fun _ _ _ h => h) (Or.inl ⟨by rfl, by (intro wS hSw; (try dsimp only at hSw); go_simp; try with_reducible rfl)⟩) (by assumption) ?_
            (try simp only [Act.put, List.setIfInBounds_toArray, List.set_cons_zero, List.set_cons_succ])
            refine wpAnyH_take (i := 3) (oi := { dst := some 47, op := Op.move (Operand.tmp 0), type := 24, pos := _, after := #[], guard := none }) (v := _) rfl (by kernel_rfl) (by kernel_rfl) (by kernel_rfl) (fun _ _ _ h => h) (Or.inl ⟨by rfl, by (intro wS hSw; (try dsimp only at hSw); go_simp; try with_reducible rfl)⟩) (by assumption) ?_
            (try simp only [Act.put, List.setIfInBounds_toArray, List.set_cons_zero, List.set_cons_succ])
            refine wpAnyH_take (i := 4) (oi := { dst := some 48, op := Op.move (Operand.tmp 6), type := 3, pos := _, after := #[], guard := none }) (v := _) rfl (by kernel_rfl) (by kernel_rfl) (by kernel_rfl) (fun _ _ _ h => h) (Or.inl ⟨by rfl, by (intro wS hSw; (try dsimp only at hSw); go_simp; try with_reducible rfl)⟩) (by assumption) ?_
            (try simp only [Act.put, List.setIfInBounds_toArray, List.set_cons_zero, List.set_cons_succ])
            refine wpAnyH_take (i := 5) (oi := { dst := some 49, op := Op.binOp BinOp.add 3 (Operand.tmp 48) (Operand.const (Value.int IntKind.i64 1)) 3, type := 3, pos := _, after := #[{ on := 4, ground := Ground.data }], guard := none }) (v := _) rfl (by kernel_rfl) (by kernel_rfl) (by kernel_rfl) (fun _ _ _ h => h) (Or.inl ⟨by rfl, by (intro wS hSw; (try dsimp only at hSw); go_simp; try with_reducible rfl)⟩) (by assumption) ?_
            (try simp only [Act.put, List.setIfInBounds_toArray, List.set_cons_zero, List.set_cons_succ])
            refine wpAnyH_take (i := 6) (oi := { dst := some 50, op := Op.slice 24 (Operand.tmp 47) none (some (Operand.tmp 49)) none, type := 24, pos := _, after := #[{ on := 3, ground := Ground.data }, { on := 5, ground := Ground.data }], guard := none }) (v := _) rfl (by kernel_rfl) (by kernel_rfl) (by kernel_rfl) (fun _ _ _ h => h) (Or.inl ⟨by rfl, by (intro wS hSw; (try dsimp only at hSw); go_simp; try with_reducible rfl)⟩) (by assumption) ?_
            (try simp only [Act.put, List.setIfInBounds_toArray, List.set_cons_zero, List.set_cons_succ])
            refine wpAnyH_take (i := 7) (oi := { dst := some 51, op := Op.convert 24 9 (Operand.tmp 50), type := 9, pos := _, after := #[{ on := 6, ground := Ground.data }], guard := none }) (v := _) rfl (by kernel_rfl) (by kernel_rfl) (by kernel_rfl) (fun _ _ _ h => h) (Or.inl ⟨by rfl, by (intro wS hSw; (try dsimp only at hSw); go_simp; try with_reducible rfl)⟩) (by assumption) ?_
            (try simp only [Act.put, List.setIfInBounds_toArray, List.set_cons_zero, List.set_cons_succ])
            refine wpAnyH_ready (rs := [1]) (by kernel_rfl) (by simp) ?_
            refine AllReadyH.cons (o := { dst := some 45, op := Op.call { callee := Callee.value (Operand.func 24), args := #[Operand.tmp 44], argTypes := #[3] }, type := 24, pos := _, after := #[{ on := 0, ground := Ground.data }], guard := none }) rfl (fun K hK => ?_) AllReadyH.nil
            go_simp
            refine (refint_z _ _ Z (by have := HP.out; unfold zz; split <;> omega) (by omega) (by omega)).mono ?_
            rintro e w1 ⟨A, n, c1, rfl, hn, hs, hk, hb⟩
            have s1 := HCV.out w1 (HV.out.drew.keep0 hk)
            have s2 := HCA.out w1 _ _ _ hs
            have HK1 := Lib.hid hk
            clear hn hs hk hb
            refine hK.out _ _ (by exact s1) (fun hHeld => ?_)
            clear hK K
            (try simp only [Act.put, List.setIfInBounds_toArray, List.set_cons_zero, List.set_cons_succ])
            refine wpAnyH_ready (rs := [2]) (by kernel_rfl) (by simp) ?_
            refine AllReadyH.cons (o := { dst := some 46, op := Op.convert 24 9 (Operand.tmp 45), type := 9, pos := _, after := #[{ on := 1, ground := Ground.data }], guard := none }) rfl (fun K hK => ?_) AllReadyH.nil
            go_simp
            refine hK.out _ _ (by exact s1) (fun hHeld => ?_)
            clear hK K
            (try simp only [Act.put, List.setIfInBounds_toArray, List.set_cons_zero, List.set_cons_succ])
            refine wpAnyH_take (i := 8) (oi := { dst := some 52, op := Op.binOp BinOp.neq 9 (Operand.tmp 46) (Operand.tmp 51) 9, type := 4, pos := _, after := #[{ on := 2, ground := Ground.data }, { on := 7, ground := Ground.data }], guard := none }) (v := _) rfl (by kernel_rfl) (by kernel_rfl) (by kernel_rfl) (fun _ _ _ h => h) (Or.inl ⟨by rfl, by (intro wS hSw; (try dsimp only at hSw); go_simp; try with_reducible rfl)⟩) (by assumption) ?_
            (try simp only [Act.put, List.setIfInBounds_toArray, List.set_cons_zero, List.set_cons_succ])
            refine wpAnyH_done (by kernel_rfl) ?_ _
            go_wp2_with fail
            go_ret2
            exact ⟨rfl, HK1.out.undrew⟩
          · have hp : ((Z : Int) % 2 == 1) = true := beq_iff_eq.2 (by omega)
            have hr : r = (0, 0) := by
              rw [← HR.out]
              obtain ⟨z, hz⟩ := grp_ne_of L k v x _ HO.out HG.out (by omega) (by rw [HY.out, ← HSV.out, HZ.out]; exact hq)
              exact tkI_of0 hz
            subst hr
            have HP := Lib.hid hpar
            clear hpar hq
            go_wp2_with fail
            refine wp_region_held_drew (S := (fun w' => (convert 24 9 (.slice (some ⟨bx, ox, none⟩) (k + 1) c)).run Try.prog w' = .ok (.string S2) w')) (by kernel_rfl) (by exact s0d) (fun hHeld => ?_)
            refine wpAnyH_take (i := 0) (oi := { dst := some 44, op := Op.move (Operand.tmp 7), type := 3, pos := _, after := #[], guard := none }) (v := _) rfl (by kernel_rfl) (by kernel_rfl) (by kernel_rfl) (fun _ _ _ h => h) (Or.inl ⟨by rfl, by (intro wS hSw; (try dsimp only at hSw); go_simp; try with_reducible rfl)⟩) (by assumption) ?_
            (try simp only [Act.put, List.setIfInBounds_toArray, List.set_cons_zero, List.set_cons_succ])
            refine wpAnyH_take (i := 3) (oi := { dst := some 47, op := Op.move (Operand.tmp 0), type := 24, pos := _, after := #[], guard := none }) (v := _) rfl (by kernel_rfl) (by kernel_rfl) (by kernel_rfl) (fun _ _ _ h => h) (Or.inl ⟨by rfl, by (intro wS hSw; (try dsimp only at hSw); go_simp; try with_reducible rfl)⟩) (by assumption) ?_
            (try simp only [Act.put, List.setIfInBounds_toArray, List.set_cons_zero, List.set_cons_succ])
            refine wpAnyH_take (i := 4) (oi := { dst := some 48, op := Op.move (Operand.tmp 6), type := 3, pos := _, after := #[], guard := none }) (v := _) rfl (by kernel_rfl) (by kernel_rfl) (by kernel_rfl) (fun _ _ _ h => h) (Or.inl ⟨by rfl, by (intro wS hSw; (try dsimp only at hSw); go_simp; try with_reducible rfl)⟩) (by assumption) ?_
            (try simp only [Act.put, List.setIfInBounds_toArray, List.set_cons_zero, List.set_cons_succ])
            refine wpAnyH_take (i := 5) (oi := { dst := some 49, op := Op.binOp BinOp.add 3 (Operand.tmp 48) (Operand.const (Value.int IntKind.i64 1)) 3, type := 3, pos := _, after := #[{ on := 4, ground := Ground.data }], guard := none }) (v := _) rfl (by kernel_rfl) (by kernel_rfl) (by kernel_rfl) (fun _ _ _ h => h) (Or.inl ⟨by rfl, by (intro wS hSw; (try dsimp only at hSw); go_simp; try with_reducible rfl)⟩) (by assumption) ?_
            (try simp only [Act.put, List.setIfInBounds_toArray, List.set_cons_zero, List.set_cons_succ])
            refine wpAnyH_take (i := 6) (oi := { dst := some 50, op := Op.slice 24 (Operand.tmp 47) none (some (Operand.tmp 49)) none, type := 24, pos := _, after := #[{ on := 3, ground := Ground.data }, { on := 5, ground := Ground.data }], guard := none }) (v := _) rfl (by kernel_rfl) (by kernel_rfl) (by kernel_rfl) (fun _ _ _ h => h) (Or.inl ⟨by rfl, by (intro wS hSw; (try dsimp only at hSw); go_simp; try with_reducible rfl)⟩) (by assumption) ?_
            (try simp only [Act.put, List.setIfInBounds_toArray, List.set_cons_zero, List.set_cons_succ])
            refine wpAnyH_take (i := 7) (oi := { dst := some 51, op := Op.convert 24 9 (Operand.tmp 50), type := 9, pos := _, after := #[{ on := 6, ground := Ground.data }], guard := none }) (v := _) rfl (by kernel_rfl) (by kernel_rfl) (by kernel_rfl) (fun _ _ _ h => h) (Or.inl ⟨by rfl, by (intro wS hSw; (try dsimp only at hSw); go_simp; try with_reducible rfl)⟩) (by assumption) ?_
            (try simp only [Act.put, List.setIfInBounds_toArray, List.set_cons_zero, List.set_cons_succ])
            refine wpAnyH_ready (rs := [1]) (by kernel_rfl) (by simp) ?_
            refine AllReadyH.cons (o := { dst := some 45, op := Op.call { callee := Callee.value (Operand.func 24), args := #[Operand.tmp 44], argTypes := #[3] }, type := 24, pos := _, after := #[{ on := 0, ground := Ground.data }], guard := none }) rfl (fun K hK => ?_) AllReadyH.nil
            go_simp
            refine (refint_z _ _ Z (by have := HP.out; unfold zz; split <;> omega) (by omega) (by omega)).mono ?_
            rintro e w1 ⟨A, n, c1, rfl, hn, hs, hk, hb⟩
            have s1 := HCV.out w1 (HV.out.drew.keep0 hk)
            have s2 := HCA.out w1 _ _ _ hs
            have HK1 := Lib.hid hk
            clear hn hs hk hb
            refine hK.out _ _ (by exact s1) (fun hHeld => ?_)
            clear hK K
            (try simp only [Act.put, List.setIfInBounds_toArray, List.set_cons_zero, List.set_cons_succ])
            refine wpAnyH_ready (rs := [2]) (by kernel_rfl) (by simp) ?_
            refine AllReadyH.cons (o := { dst := some 46, op := Op.convert 24 9 (Operand.tmp 45), type := 9, pos := _, after := #[{ on := 1, ground := Ground.data }], guard := none }) rfl (fun K hK => ?_) AllReadyH.nil
            go_simp
            refine hK.out _ _ (by exact s1) (fun hHeld => ?_)
            clear hK K
            (try simp only [Act.put, List.setIfInBounds_toArray, List.set_cons_zero, List.set_cons_succ])
            refine wpAnyH_take (i := 8) (oi := { dst := some 52, op := Op.binOp BinOp.neq 9 (Operand.tmp 46) (Operand.tmp 51) 9, type := 4, pos := _, after := #[{ on := 2, ground := Ground.data }, { on := 7, ground := Ground.data }], guard := none }) (v := _) rfl (by kernel_rfl) (by kernel_rfl) (by kernel_rfl) (fun _ _ _ h => h) (Or.inl ⟨by rfl, by (intro wS hSw; (try dsimp only at hSw); go_simp; try with_reducible rfl)⟩) (by assumption) ?_
            (try simp only [Act.put, List.setIfInBounds_toArray, List.set_cons_zero, List.set_cons_succ])
            refine wpAnyH_done (by kernel_rfl) ?_ _
            go_wp2_with fail
            go_ret2
            exact ⟨rfl, HK1.out.undrew⟩
    · have hr : r = (0, 0) := by
        rw [← HR.out]
        by_cases hk9 : k ≤ 9
        · obtain ⟨_, _, hg⟩ := H9.out hk9
          have : L.drop k = [] := List.drop_eq_nil_of_le (by have := HM.out; omega)
          rw [this] at hg
          exact tkI_of0 hg.symm
        · exact tkI_of0 (H10.out (by omega))
      subst hr
      by_cases hkm : k < m
      · have hk1 : (10 : Int) ≤ (k : Int) := by omega
        have hkm' : (k : Int) < (m : Int) := by omega
        clear hlt
        go_wp2_with fail
        go_ret2
        exact ⟨rfl, Keep.refl _ _ _⟩
      · have hkm' : (m : Int) ≤ (k : Int) := by omega
        clear hlt
        go_wp2_with fail
        go_ret2
        exact ⟨rfl, Keep.refl _ _ _⟩
end Go.Proofs.Ytijionfhnoffcaa
