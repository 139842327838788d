/- The law OctetsOnce: its walk. -/
import Derived.Test.YtalhojnkdcopeaaLawA
namespace Go.Proofs.Ytalhojnkdcopeaa
set_option linter.unusedVariables false
set_option linter.unusedSimpArgs false
open Go.RowKit
theorem rleft_v (w : World) (g : Nat) (X : Option Addr) (L : List Int) (q : Nat) (hq : L.length = q) (hr : Rd w g X L) :
    Calls Try.prog 12 #[bptr g] w fun e w' => e = .returned (.int .i64 (q : Int)) ∧ w = w' := hq ▸ rleft_yes w g X L hr
theorem HX0 {w w1 : World} {X : Option Addr} {m g : Nat} {xs : List Value} (hv : Vw w X m 1 xs) (hg : w1.heap.size ≤ g) (hk : Keep w.heap.size [] w w1) (hm : 0 < m) : ∀ x, x ∈ blks X → x ≠ g := by
  intro x hx
  obtain ⟨b, o, rfl, hlt, _⟩ := hv.2 hm
  simp [blks] at hx
  have := hk.size
  omega
set_option maxRecDepth 10000 in
set_option maxHeartbeats 4000000 in
theorem once_any (w : World) (X : Option Addr) (m c : Nat) (L : List Int) (hO : Oct L) (hmc : m ≤ c) (hcm : c ≤ maxLen) (hv : Vw w X m 1 (octs L)) :
    Calls Try.prog 3 #[.slice X m c] w (LawPost w) := by
  have hlm : L.length = m := by simpa [octs] using hv.1
  have hmc' : (m : Int) ≤ (c : Int) := by omega
  have hcm' : (c : Int) ≤ 9223372036854775807 := by unfold maxLen at hcm; omega
  have HO := Lib.hid hO
  have HV := Lib.hid hv
  have HM := Lib.hid hlm
  clear hO hv hlm
  by_cases hlt : 2000 < m
  · have hl : (2000 : Int) < (m : Int) := by omega
    go_enter Try.func3, Try.ntmps3
    go_wp2_with fail
    refine (awake_any _).mono ?_
    rintro e w1 ⟨rfl, hk⟩
    have K1 := Lib.hid hk
    clear hk
    go_wp2_with fail
    go_ret
    exact ⟨rfl, K1.out⟩
  have hl : (m : Int) ≤ 2000 := by omega
  obtain ⟨n, k, hnk⟩ : ∃ n k, tkI L = (n, k) := ⟨_, _, rfl⟩
  have HJ := Lib.hid hnk
  by_cases hk0 : k = 0
  · subst hk0
    have hn0 := tkI_none L n hnk
    subst hn0
    clear hnk
    go_enter Try.func3, Try.ntmps3
    go_wp2_with fail
    refine (awake_any _).mono ?_
    rintro e w1 ⟨rfl, hk⟩
    have K1 := Lib.hid hk
    have HV1 := Lib.hid (HV.out.keep0 hk)
    clear hk
    go_wp2_with fail
    refine (rnew_any _ X m c L (by omega) HV1.out).mono ?_
    rintro e w2 ⟨g, A, rfl, hr, hk, hg, hA⟩
    have K2 : Hid (Keep w.heap.size [] w w2) := K1.out.chain0 (Nat.le_refl _) hk
    have HG : Hid (w.heap.size ≤ g) := Nat.le_trans K1.out.size hg
    have HR2 := Lib.hid hr
    have HV2 := Lib.hid (HV1.out.keep0 hk)
    have HGX : Hid (0 < m → ∀ x, x ∈ blks X → x ≠ g) := HX0 HV.out hg K1.out
    clear hk hg hr hA
    go_wp2_with fail
    refine (rint_no _ g A L 0 HO.out HR2.out HJ.out).mono ?_
    rintro e w3 ⟨rfl, hf, hk⟩
    have HF := Lib.hid hf
    have HB : Hid (Blk w3 g 53 #[.bool true, .bool true, .slice none 0 0]) := hf
    have K3 : Hid (Keep w.heap.size [] w w3) := K2.out.chain1 (Nat.le_refl _) hk HG.out
    have HV3 := Lib.hid (HV2.out.keepP hk (fun hm x hx => by simpa using HGX.out hm x hx))
    clear hf hk
    go_wp2_with fail
    refine (rfailed_b _ g true _ _ HB.out).mono ?_
    rintro e w' ⟨rfl, rfl⟩
    go_wp2_with fail
    refine (takeint_r _ X m c L _ HO.out HV3.out hmc hcm HJ.out).mono ?_
    rintro e w4 ⟨rfl, hk⟩
    have K4 : Hid (Keep w.heap.size [] w w4) := K3.out.chain0 (Nat.le_refl _) hk
    have HF4 : Hid (Rf w4 g) := Blk.keepS HF.out hk (by simp)
    clear hk
    go_wp2_with fail
    refine (rleft_failed _ g HF4.out).mono ?_
    rintro e w' ⟨rfl, rfl⟩
    go_wp2_with fail
    go_ret
    exact ⟨rfl, K4.out⟩
  · obtain ⟨hvn, h0, h1, hkl, hk10⟩ := tkI_sound L n k HO.out hnk hk0
    obtain ⟨q, hq⟩ : ∃ q, (L.drop k).length = q := ⟨_, rfl⟩
    have hqk : (m : Int) - (q : Int) = (k : Int) := by have := HM.out; simp at hq; omega
    have hk1 : (1 : Int) ≤ (k : Int) := by omega
    have hkm : (k : Int) ≤ (m : Int) := by have := HM.out; omega
    have hkm2 : (k : Int) ≤ (c : Int) := by omega
    have hkm3 : (0 : Int) ≤ (k : Int) := by omega
    have hn1 : 0 < k := by omega
    have hn2 : k ≤ m := by omega
    have hn3 : decide (0 < k) = true := decide_eq_true hn1
    have hn4 : decide (k ≤ m) = true := decide_eq_true hn2
    obtain ⟨bx, ox, rfl, hbx, _⟩ := HV.out.2 (by omega)
    have HVL : Hid ((vn (zz n).toNat).length ≤ 10) := by unfold Hid; rw [← hvn]; simp; omega
    obtain ⟨S1, hS1⟩ : ∃ S1, strOfNums (L.take k) = S1 := ⟨_, rfl⟩
    have hsz1 : S1.size ≤ 10 := by rw [← hS1, strOfNums_size]; simp; omega
    have HCV : Hid (∀ W, Keep w.heap.size [] w W → (convert 22 9 (.slice (some ⟨bx, ox, none⟩) k c)).run Try.prog W = .ok (.string S1) W) := fun W hW => by
      have h2 := (HV.out.keep0 hW).take (k := k) (by omega)
      rw [octs, ← List.map_take] at h2
      rw [← hS1]
      exact conv_str 22 9 5 Try.underlying22 Try.underlying5 Try.underlying9 _ _ _ _ h2
    have HCA : Hid (∀ W A n1 c1, Sl W 5 1 A n1 c1 (octs (vn (zz n).toNat)) → (convert 22 9 (.slice A n1 c1)).run Try.prog W = .ok (.string S1) W) := fun W A n1 c1 hs => by
      rw [← hS1, hvn]
      exact conv_str 22 9 5 Try.underlying22 Try.underlying5 Try.underlying9 _ _ _ _ (hs.vw (by omega))
    have HQ := Lib.hid hq
    have HK0 := Lib.hid hk0
    clear hnk hk0 hS1 hq hvn hkl
    go_enter Try.func3, Try.ntmps3
    go_wp2_with fail
    refine (awake_any _).mono ?_
    rintro e w1 ⟨rfl, hk⟩
    have K1 := Lib.hid hk
    have HV1 := Lib.hid (HV.out.keep0 hk)
    clear hk
    go_wp2_with fail
    refine (rnew_any _ _ m c L (by omega) HV1.out).mono ?_
    rintro e w2 ⟨g, A, rfl, hr, hk, hg, hA⟩
    have K2 : Hid (Keep w.heap.size [] w w2) := K1.out.chain0 (Nat.le_refl _) hk
    have HG : Hid (w.heap.size ≤ g) := Nat.le_trans K1.out.size hg
    have HR2 := Lib.hid hr
    clear hk hg hr hA
    go_wp2_with fail
    refine (rint_yes _ g A L n k HO.out HR2.out HJ.out HK0.out).mono ?_
    rintro e w3 ⟨rfl, X', hf, hk, _⟩
    have HR3 := Lib.hid hf
    obtain ⟨_, _, _, _, _, hb, _⟩ := hf
    have HB := Lib.hid hb
    have K3 : Hid (Keep w.heap.size [] w w3) := K2.out.chain1 (Nat.le_refl _) hk HG.out
    clear hb hk K2
    have K2 := K3
    have s2 := HCV.out w3.drew K2.out.drew
    go_wp2_with fail
    refine (rfailed_b _ g false _ _ HB.out).mono ?_
    rintro e w' ⟨rfl, rfl⟩
    go_wp2_with fail
    refine (rleft_v _ g X' _ q HQ.out HR3.out).mono ?_
    rintro e w' ⟨rfl, rfl⟩
    go_wp2_with fail
    refine wp_region_held_drew (S := (fun w' => (convert 22 9 (.slice (some ⟨bx, ox, none⟩) k c)).run Try.prog w' = .ok (.string S1) w')) (by kernel_rfl) (by exact s2) (fun hHeld => ?_)
    refine wpAnyH_take (i := 0) (oi := { dst := some 40, op := Op.move (Operand.tmp 7), type := 3, pos := _, after := #[], guard := none }) (v := _) rfl (by kernel_rfl) (by kernel_rfl) (by kernel_rfl) (fun _ _ _ h => h) (Or.inl ⟨by rfl, by (intro wS hSw; (try dsimp only at hSw); go_simp; try with_reducible rfl)⟩) (by assumption) ?_
    (try simp only [Act.put, List.setIfInBounds_toArray, List.set_cons_zero, List.set_cons_succ])
    refine wpAnyH_take (i := 1) (oi := { dst := some 41, op := Op.binOp BinOp.gtr 3 (Operand.tmp 40) (Operand.const (Value.int IntKind.i64 0)) 3, type := 4, pos := _, after := #[{ on := 0, ground := Ground.data }], guard := none }) (v := _) rfl (by kernel_rfl) (by kernel_rfl) (by kernel_rfl) (fun _ _ _ h => h) (Or.inl ⟨by rfl, by (intro wS hSw; (try dsimp only at hSw); go_simp; try with_reducible rfl)⟩) (by assumption) ?_
    (try simp only [Act.put, List.setIfInBounds_toArray, List.set_cons_zero, List.set_cons_succ])
    refine wpAnyH_take (i := 2) (oi := { dst := some 42, op := Op.move (Operand.tmp 41), type := 4, pos := _, after := #[{ on := 1, ground := Ground.data }], guard := none }) (v := _) rfl (by kernel_rfl) (by kernel_rfl) (by kernel_rfl) (fun _ _ _ h => h) (Or.inl ⟨by rfl, by (intro wS hSw; (try dsimp only at hSw); go_simp; try with_reducible rfl)⟩) (by assumption) ?_
    (try simp only [Act.put, List.setIfInBounds_toArray, List.set_cons_zero, List.set_cons_succ])
    refine wpAnyH_take (i := 3) (oi := { dst := some 43, op := Op.move (Operand.tmp 7), type := 3, pos := _, after := #[{ on := 2, ground := Ground.guard }], guard := some (2, true) }) (v := _) rfl (by kernel_rfl) (by kernel_rfl) (by kernel_rfl) (fun _ _ _ h => h) (Or.inl ⟨by rfl, by (intro wS hSw; (try dsimp only at hSw); go_simp; try with_reducible rfl)⟩) (by assumption) ?_
    (try simp only [Act.put, List.setIfInBounds_toArray, List.set_cons_zero, List.set_cons_succ])
    refine wpAnyH_take (i := 4) (oi := { dst := some 44, op := Op.move (Operand.tmp 0), type := 22, pos := _, after := #[{ on := 2, ground := Ground.guard }], guard := some (2, true) }) (v := _) rfl (by kernel_rfl) (by kernel_rfl) (by kernel_rfl) (fun _ _ _ h => h) (Or.inl ⟨by rfl, by (intro wS hSw; (try dsimp only at hSw); go_simp; try with_reducible rfl)⟩) (by assumption) ?_
    (try simp only [Act.put, List.setIfInBounds_toArray, List.set_cons_zero, List.set_cons_succ])
    refine wpAnyH_take (i := 5) (oi := { dst := some 45, op := Op.call { callee := Callee.builtin Builtin.len, args := #[Operand.tmp 44], argTypes := #[22] }, type := 3, pos := _, after := #[{ on := 4, ground := Ground.data }, { on := 2, ground := Ground.guard }], guard := some (2, true) }) (v := _) rfl (by kernel_rfl) (by kernel_rfl) (by kernel_rfl) (fun _ _ _ h => h) (Or.inl ⟨by rfl, by (intro wS hSw; (try dsimp only at hSw); go_simp; try with_reducible rfl)⟩) (by assumption) ?_
    (try simp only [Act.put, List.setIfInBounds_toArray, List.set_cons_zero, List.set_cons_succ])
    refine wpAnyH_take (i := 6) (oi := { dst := some 46, op := Op.binOp BinOp.leq 3 (Operand.tmp 43) (Operand.tmp 45) 3, type := 4, pos := _, after := #[{ on := 3, ground := Ground.data }, { on := 5, ground := Ground.data }, { on := 2, ground := Ground.guard }], guard := some (2, true) }) (v := _) rfl (by kernel_rfl) (by kernel_rfl) (by kernel_rfl) (fun _ _ _ h => h) (Or.inl ⟨by rfl, by (intro wS hSw; (try dsimp only at hSw); go_simp; try with_reducible rfl)⟩) (by assumption) ?_
    (try simp only [Act.put, List.setIfInBounds_toArray, List.set_cons_zero, List.set_cons_succ])
    refine wpAnyH_take (i := 7) (oi := { dst := some 47, op := Op.pick (Operand.tmp 42) (Operand.tmp 46) (Operand.const (Value.bool false)), type := 4, pos := _, after := #[{ on := 2, ground := Ground.data }, { on := 6, ground := Ground.data }], guard := none }) (v := _) rfl (by kernel_rfl) (by kernel_rfl) (by kernel_rfl) (fun _ _ _ h => h) (Or.inl ⟨by rfl, by (intro wS hSw; (try dsimp only at hSw); go_simp; try with_reducible rfl)⟩) (by assumption) ?_
    (try simp only [Act.put, List.setIfInBounds_toArray, List.set_cons_zero, List.set_cons_succ])
    refine wpAnyH_take (i := 8) (oi := { dst := some 48, op := Op.move (Operand.tmp 47), type := 4, pos := _, after := #[{ on := 7, ground := Ground.data }, { on := 2, ground := Ground.chain }], guard := none }) (v := _) rfl (by kernel_rfl) (by kernel_rfl) (by kernel_rfl) (fun _ _ _ h => h) (Or.inl ⟨by rfl, by (intro wS hSw; (try dsimp only at hSw); go_simp; try with_reducible rfl)⟩) (by assumption) ?_
    (try simp only [Act.put, List.setIfInBounds_toArray, List.set_cons_zero, List.set_cons_succ])
    refine wpAnyH_take (i := 10) (oi := { dst := some 50, op := Op.move (Operand.tmp 4), type := 3, pos := _, after := #[{ on := 8, ground := Ground.guard }], guard := some (8, true) }) (v := _) rfl (by kernel_rfl) (by kernel_rfl) (by kernel_rfl) (fun _ _ _ h => h) (Or.inl ⟨by rfl, by (intro wS hSw; (try dsimp only at hSw); go_simp; try with_reducible rfl)⟩) (by assumption) ?_
    (try simp only [Act.put, List.setIfInBounds_toArray, List.set_cons_zero, List.set_cons_succ])
    refine wpAnyH_take (i := 14) (oi := { dst := some 54, op := Op.move (Operand.tmp 0), type := 22, pos := _, after := #[{ on := 8, ground := Ground.guard }], guard := some (8, true) }) (v := _) rfl (by kernel_rfl) (by kernel_rfl) (by kernel_rfl) (fun _ _ _ h => h) (Or.inl ⟨by rfl, by (intro wS hSw; (try dsimp only at hSw); go_simp; try with_reducible rfl)⟩) (by assumption) ?_
    (try simp only [Act.put, List.setIfInBounds_toArray, List.set_cons_zero, List.set_cons_succ])
    refine wpAnyH_take (i := 15) (oi := { dst := some 55, op := Op.move (Operand.tmp 7), type := 3, pos := _, after := #[{ on := 8, ground := Ground.guard }], guard := some (8, true) }) (v := _) rfl (by kernel_rfl) (by kernel_rfl) (by kernel_rfl) (fun _ _ _ h => h) (Or.inl ⟨by rfl, by (intro wS hSw; (try dsimp only at hSw); go_simp; try with_reducible rfl)⟩) (by assumption) ?_
    (try simp only [Act.put, List.setIfInBounds_toArray, List.set_cons_zero, List.set_cons_succ])
    refine wpAnyH_take (i := 16) (oi := { dst := some 56, op := Op.slice 22 (Operand.tmp 54) none (some (Operand.tmp 55)) none, type := 22, pos := _, after := #[{ on := 14, ground := Ground.data }, { on := 15, ground := Ground.data }, { on := 8, ground := Ground.guard }], guard := some (8, true) }) (v := _) rfl (by kernel_rfl) (by kernel_rfl) (by kernel_rfl) (fun _ _ _ h => h) (Or.inl ⟨by rfl, by (intro wS hSw; (try dsimp only at hSw); go_simp; try with_reducible rfl)⟩) (by assumption) ?_
    (try simp only [Act.put, List.setIfInBounds_toArray, List.set_cons_zero, List.set_cons_succ])
    refine wpAnyH_take (i := 17) (oi := { dst := some 57, op := Op.convert 22 9 (Operand.tmp 56), type := 9, pos := _, after := #[{ on := 16, ground := Ground.data }, { on := 8, ground := Ground.guard }], guard := some (8, true) }) (v := _) rfl (by kernel_rfl) (by kernel_rfl) (by kernel_rfl) (fun _ _ _ h => h) (Or.inl ⟨by rfl, by (intro wS hSw; (try dsimp only at hSw); go_simp; try with_reducible rfl)⟩) (by assumption) ?_
    (try simp only [Act.put, List.setIfInBounds_toArray, List.set_cons_zero, List.set_cons_succ])
    refine wpAnyH_ready (rs := [9]) (by kernel_rfl) (by simp) ?_
    refine AllReadyH.cons (o := { dst := some 49, op := Op.call { callee := Callee.value (Operand.func 13), args := #[], argTypes := #[] }, type := 29, pos := _, after := #[{ on := 8, ground := Ground.chain }, { on := 8, ground := Ground.guard }], guard := some (8, true) }) rfl (fun K hK => ?_) AllReadyH.nil
    go_simp
    refine (wnew_any _).mono ?_
    rintro e w5 ⟨g5, rfl, hg, hw, hk⟩
    have hk' := hk.undrew
    have W5 : Hid (WT w w5 g5 none []) := ⟨K2.out.chain0 (Nat.le_refl _) hk', hw, Nat.le_trans K2.out.size hg, by simp [blks]⟩
    have s5 := HCV.out w5 W5.out.keep
    clear hg hw hk hk'
    refine hK.out _ _ (by exact s5) (fun hHeld => ?_)
    clear hK K
    (try simp only [Act.put, List.setIfInBounds_toArray, List.set_cons_zero, List.set_cons_succ])
    refine wpAnyH_ready (rs := [11]) (by kernel_rfl) (by simp) ?_
    refine AllReadyH.cons (o := { dst := some 51, op := Op.call { callee := Callee.value (Operand.func 14), args := #[Operand.tmp 49, Operand.tmp 50], argTypes := #[29, 3] }, type := 29, pos := _, after := #[{ on := 9, ground := Ground.data }, { on := 10, ground := Ground.data }, { on := 9, ground := Ground.chain }, { on := 8, ground := Ground.guard }], guard := some (8, true) }) rfl (fun K hK => ?_) AllReadyH.nil
    go_simp
    refine (wint_any _ g5 none [] n h0 h1 (by simp) W5.out.wr).mono ?_
    rintro e w6 ⟨rfl, A6, hw, hk, hb⟩
    have W6 := Lib.hid (W5.out.next hw hk hb)
    have s6 := HCV.out w6 W6.out.keep
    clear hw hk hb
    refine hK.out _ _ (by exact s6) (fun hHeld => ?_)
    clear hK K
    (try simp only [Act.put, List.setIfInBounds_toArray, List.set_cons_zero, List.set_cons_succ])
    refine wpAnyH_ready (rs := [12]) (by kernel_rfl) (by simp) ?_
    refine AllReadyH.cons (o := { dst := some 52, op := Op.call { callee := Callee.value (Operand.func 15), args := #[Operand.tmp 51], argTypes := #[29] }, type := 22, pos := _, after := #[{ on := 11, ground := Ground.data }, { on := 11, ground := Ground.chain }, { on := 8, ground := Ground.guard }], guard := some (8, true) }) rfl (fun K hK => ?_) AllReadyH.nil
    go_simp
    refine (wbytes_any _ g5 A6 _ W6.out.wr (by simp; have := HVL.out; omega)).mono ?_
    rintro e w7 ⟨A7, n7, c7, rfl, hn, hs, hk, hb⟩
    have K7 : Hid (Keep w.heap.size [] w w7) := W6.out.keep.chain0 (Nat.le_refl _) hk
    have s7 := HCV.out w7 K7.out
    have t7 := HCA.out w7 A7 n7 c7 (by simpa using hs)
    clear hn hs hk hb
    refine hK.out _ _ (by exact s7) (fun hHeld => ?_)
    clear hK K
    (try simp only [Act.put, List.setIfInBounds_toArray, List.set_cons_zero, List.set_cons_succ])
    refine wpAnyH_ready (rs := [13]) (by kernel_rfl) (by simp) ?_
    refine AllReadyH.cons (o := { dst := some 53, op := Op.convert 22 9 (Operand.tmp 52), type := 9, pos := _, after := #[{ on := 12, ground := Ground.data }, { on := 8, ground := Ground.guard }], guard := some (8, true) }) rfl (fun K hK => ?_) AllReadyH.nil
    go_simp
    refine hK.out _ _ (by exact s7) (fun hHeld => ?_)
    clear hK K
    (try simp only [Act.put, List.setIfInBounds_toArray, List.set_cons_zero, List.set_cons_succ])
    refine wpAnyH_take (i := 18) (oi := { dst := some 58, op := Op.binOp BinOp.eql 9 (Operand.tmp 53) (Operand.tmp 57) 9, type := 4, pos := _, after := #[{ on := 13, ground := Ground.data }, { on := 17, ground := Ground.data }, { on := 8, ground := Ground.guard }], guard := some (8, true) }) (v := _) rfl (by kernel_rfl) (by kernel_rfl) (by kernel_rfl) (fun _ _ _ h => h) (Or.inl ⟨by rfl, by (intro wS hSw; (try dsimp only at hSw); go_simp; try with_reducible rfl)⟩) (by assumption) ?_
    (try simp only [Act.put, List.setIfInBounds_toArray, List.set_cons_zero, List.set_cons_succ])
    refine wpAnyH_take (i := 19) (oi := { dst := some 59, op := Op.pick (Operand.tmp 48) (Operand.tmp 58) (Operand.const (Value.bool false)), type := 4, pos := _, after := #[{ on := 8, ground := Ground.data }, { on := 18, ground := Ground.data }], guard := none }) (v := _) rfl (by kernel_rfl) (by kernel_rfl) (by kernel_rfl) (fun _ _ _ h => h) (Or.inl ⟨by rfl, by (intro wS hSw; (try dsimp only at hSw); go_simp; try with_reducible rfl)⟩) (by assumption) ?_
    (try simp only [Act.put, List.setIfInBounds_toArray, List.set_cons_zero, List.set_cons_succ])
    refine wpAnyH_take (i := 20) (oi := { dst := some 2, op := Op.assign (Operand.tmp 59), type := 4, pos := _, after := #[{ on := 19, ground := Ground.data }, { on := 12, ground := Ground.chain }, { on := 0, ground := Ground.phase }, { on := 1, ground := Ground.phase }, { on := 2, ground := Ground.phase }, { on := 3, ground := Ground.phase }, { on := 4, ground := Ground.phase }, { on := 5, ground := Ground.phase }, { on := 6, ground := Ground.phase }, { on := 7, ground := Ground.phase }, { on := 8, ground := Ground.phase }, { on := 9, ground := Ground.phase }, { on := 10, ground := Ground.phase }, { on := 11, ground := Ground.phase }, { on := 12, ground := Ground.phase }, { on := 13, ground := Ground.phase }, { on := 14, ground := Ground.phase }, { on := 15, ground := Ground.phase }, { on := 16, ground := Ground.phase }, { on := 17, ground := Ground.phase }, { on := 18, ground := Ground.phase }, { on := 19, ground := Ground.phase }], guard := none }) (v := _) rfl (by kernel_rfl) (by kernel_rfl) (by kernel_rfl) (fun _ _ _ h => h) (Or.inl ⟨by rfl, by (intro wS hSw; (try dsimp only at hSw); go_simp; try with_reducible rfl)⟩) (by assumption) ?_
    (try simp only [Act.put, List.setIfInBounds_toArray, List.set_cons_zero, List.set_cons_succ])
    refine wpAnyH_done (by kernel_rfl) ?_ _
    go_wp2_with fail
    all_goals go_ret
    all_goals exact ⟨rfl, K7.out⟩
end Go.Proofs.Ytalhojnkdcopeaa
