/- The error-correcting memory: Write, Flip, Size. -/
import Derived.Test.YtfkbcflgbjncdaaMemA
import Derived.Test.YtfkbcflgbjncdaaRg
namespace Go.Proofs.Ytfkbcflgbjncdaa
set_option linter.unusedVariables false
set_option linter.unusedSimpArgs false
open Go.RowKit
theorem MemC.put {w w' : World} {g a : Nat} {cl cl' : Bool} {D C : List Nat} {i d c : Nat} (h : MemC w g a cl D C) (hi : i < D.length) (hw : w' = w.setCell ⟨a, i, none⟩ (.int .u64 (c : Int))) (hc : Cw cl' d c) (hcl : cl = true ∨ cl' = false ∨ cl = cl') (hle : cl' = true → cl = true) :
    MemC w' g a cl' (D.set i d) (C.set i c) := by
  obtain ⟨fx, hm⟩ := h.mb
  have hl : i < C.length := by rw [h.le]; exact hi
  have ha := h.cb.set_ i (.int .u64 (c : Int))
  rw [cdsC_set] at ha
  subst hw
  refine ⟨⟨fx, by rw [List.length_set]; exact hm.far (p := ⟨a, i, none⟩) h.ga _⟩, ha, by rw [List.length_set, List.length_set]; exact h.le, fun j d' hj => ?_, h.ga, by rw [List.length_set]; exact h.len⟩
  by_cases hji : j = i
  · subst hji
    rw [List.getElem?_set_self hi] at hj
    cases hj
    exact ⟨c, by rw [List.getElem?_set_self hl], hc⟩
  · rw [List.getElem?_set_ne (Ne.symm hji)] at hj
    obtain ⟨c', hc', h1, h2⟩ := h.cw j d' hj
    refine ⟨c', by rw [List.getElem?_set_ne (Ne.symm hji)]; exact hc', h1, ?_⟩
    rcases h2 with h2 | ⟨h2, h3⟩
    · exact .inl h2
    · refine .inr ⟨?_, h3⟩
      cases cl' with
      | false => rfl
      | true => rw [hle rfl] at h2; cases h2
theorem MemC.weak {w : World} {g a : Nat} {D C : List Nat} (h : MemC w g a true D C) : MemC w g a false D C :=
  ⟨h.mb, h.cb, h.le, fun i d hi => by obtain ⟨c, hc, h1, h2⟩ := h.cw i d hi; exact ⟨c, hc, h1, by rcases h2 with h2 | ⟨h2, _⟩; exact .inl h2; cases h2⟩, h.ga, h.len⟩
set_option maxHeartbeats 4000000 in
theorem size_m (w : World) (g a : Nat) (cl : Bool) (D C : List Nat) (h : MemC w g a cl D C) : Calls Try.prog 59 #[bptr g] w fun e w' => e = .returned (.int .i64 (D.length : Int)) ∧ w = w' := by
  obtain ⟨fx, hm⟩ := h.mb
  have h1 : w.cell? ⟨g, 1, none⟩ = some (.slice (some ⟨a, 0, none⟩) D.length D.length) := hm.cell 1
  have HM := Lib.hid hm
  obtain ⟨n, hn⟩ : ∃ n, n = D.length := ⟨_, rfl⟩
  rw [← hn] at h1 ⊢
  clear hm hn h
  go_enter Try.func59, Try.ntmps59
  go_wp2_with fail
  refine (mok_w _ g _ _ HM.out).mono ?_
  rintro e w' ⟨rfl, rfl⟩
  go_wp2_with fail
  go_ret
  exact ⟨rfl, rfl⟩
set_option maxHeartbeats 4000000 in
theorem write_m (w : World) (g a : Nat) (cl : Bool) (D C : List Nat) (i v : Nat) (h : MemC w g a cl D C) (hi : i < D.length) (hv : v < 4294967296) : Calls Try.prog 64 #[bptr g, .int .i64 (i : Int), .int .u32 (v : Int)] w fun e w' =>
    e = .returned (.int .i64 0) ∧ ∃ C', MemC w' g a cl (D.set i v) C' ∧ Keep w.heap.size [g, a] w w' := by
  obtain ⟨fx, hm⟩ := h.mb
  obtain ⟨n, hn⟩ : ∃ n, n = D.length := ⟨_, rfl⟩
  have h1 : w.cell? ⟨g, 1, none⟩ = some (.slice (some ⟨a, 0, none⟩) n n) := by rw [hn]; exact hm.cell 1
  have hi1 : (i : Int) < (n : Int) := by omega
  have hnI : (n : Int) ≤ 1000000 := by have := h.len; omega
  have HH := Lib.hid h
  have HL := Lib.hid hi
  have HN := Lib.hid hn
  clear hm hn h hi
  go_enter Try.func64, Try.ntmps64
  go_wp2_with fail
  refine (check_in _ g a cl D C i HH.out HL.out).mono ?_
  rintro e w' ⟨rfl, rfl⟩
  go_wp2_with fail
  have Q0 : Hid (Keep w.heap.size [] w w.drew) := Lib.hid (Keep.refl _ _ _).drew
  have HS : Hid (∀ F, Keep w.heap.size [] w F → F.cell? ⟨g, 1, none⟩ = some (.slice (some ⟨a, 0, none⟩) n n)) := Lib.hid (fun F k => by
    obtain ⟨fx, hb⟩ := (HH.out.keepS k (by simp) (by simp)).mb
    rw [HN.out]; exact hb.cell 1)
  clear h1
  refine region_anyZ 8 (S := (fun w' => w'.cell? ⟨g, 1, none⟩ = some (.slice (some ⟨a, 0, none⟩) n n))) (by kernel_rfl) (by exact HS.out _ Q0.out) (fun hHeld => ?_)
  refine anyZ.take (i := 0) (oi := { dst := some 13, op := Op.move (Operand.tmp 0), type := 54, pos := _, after := #[], guard := none }) (v := _) rfl (by kernel_rfl) (by kernel_rfl) (by kernel_rfl) (by kernel_rfl) (by kernel_rfl) (fun _ _ _ h => h) (Or.inl ⟨by rfl, by (intro wS hSw; (try dsimp only at hSw); go_simp; try with_reducible rfl)⟩) (by exact hHeld) ?_
  (try simp only [Act.put, List.setIfInBounds_toArray, List.set_cons_zero, List.set_cons_succ])
  refine anyZ.take (i := 1) (oi := { dst := some 14, op := Op.nilCheck (Operand.tmp 13), type := 0, pos := _, after := #[{ on := 0, ground := Ground.data }], guard := none }) (v := _) rfl (by kernel_rfl) (by kernel_rfl) (by kernel_rfl) (by kernel_rfl) (by kernel_rfl) (fun _ _ _ h => h) (Or.inl ⟨by rfl, by (intro wS hSw; (try dsimp only at hSw); go_simp; try with_reducible rfl)⟩) (by exact hHeld) ?_
  (try simp only [Act.put, List.setIfInBounds_toArray, List.set_cons_zero, List.set_cons_succ])
  refine anyZ.take (i := 2) (oi := { dst := some 15, op := Op.fieldAddr 126 (Operand.tmp 14) 1, type := 0, pos := _, after := #[{ on := 1, ground := Ground.data }], guard := none }) (v := _) rfl (by kernel_rfl) (by kernel_rfl) (by kernel_rfl) (by kernel_rfl) (by kernel_rfl) (fun _ _ _ h => h) (Or.inl ⟨by rfl, by (intro wS hSw; (try dsimp only at hSw); go_simp; try with_reducible rfl)⟩) (by exact hHeld) ?_
  (try simp only [Act.put, List.setIfInBounds_toArray, List.set_cons_zero, List.set_cons_succ])
  refine anyZ.take (i := 3) (oi := { dst := some 16, op := Op.load 124 (Operand.tmp 15), type := 124, pos := _, after := #[{ on := 2, ground := Ground.data }], guard := none }) (v := _) rfl (by kernel_rfl) (by kernel_rfl) (by kernel_rfl) (by kernel_rfl) (by kernel_rfl) (fun _ _ _ h => h) (Or.inl ⟨by rfl, by (intro wS hSw; (try dsimp only at hSw); go_simp; try with_reducible rfl)⟩) (by exact hHeld) ?_
  (try simp only [Act.put, List.setIfInBounds_toArray, List.set_cons_zero, List.set_cons_succ])
  refine anyZ.take (i := 4) (oi := { dst := some 17, op := Op.move (Operand.tmp 1), type := 3, pos := _, after := #[], guard := none }) (v := _) rfl (by kernel_rfl) (by kernel_rfl) (by kernel_rfl) (by kernel_rfl) (by kernel_rfl) (fun _ _ _ h => h) (Or.inl ⟨by rfl, by (intro wS hSw; (try dsimp only at hSw); go_simp; try with_reducible rfl)⟩) (by exact hHeld) ?_
  (try simp only [Act.put, List.setIfInBounds_toArray, List.set_cons_zero, List.set_cons_succ])
  refine anyZ.take (i := 5) (oi := { dst := some 18, op := Op.move (Operand.tmp 2), type := 82, pos := _, after := #[], guard := none }) (v := _) rfl (by kernel_rfl) (by kernel_rfl) (by kernel_rfl) (by kernel_rfl) (by kernel_rfl) (fun _ _ _ h => h) (Or.inl ⟨by rfl, by (intro wS hSw; (try dsimp only at hSw); go_simp; try with_reducible rfl)⟩) (by exact hHeld) ?_
  (try simp only [Act.put, List.setIfInBounds_toArray, List.set_cons_zero, List.set_cons_succ])
  refine anyZ.ready (rs := [6]) (by kernel_rfl) (by simp) ?_
  refine (AllZ.cons (o := { dst := some 19, op := Op.call { callee := Callee.value (Operand.func 57), args := #[Operand.tmp 18], argTypes := #[82] }, type := 95, pos := _, after := #[{ on := 5, ground := Ground.data }], guard := none }) rfl (fun K hK => ?_) AllZ.nil)
  go_simp
  refine (enc_w _ v hv).mono ?_
  rintro e W1 ⟨rfl, hk⟩
  have Q1 := Lib.hid (Q0.out.chain0 (Nat.le_refl _) hk)
  have M1 := Lib.hid (HH.out.keepS Q1.out (by simp) (by simp))
  obtain ⟨c0, hc0⟩ : ∃ c, C[i]? = some c := ⟨_, List.getElem?_eq_getElem (by have := HL.out; have := HH.out.le; omega)⟩
  have x2 : W1.cell? ⟨a, i, none⟩ = some (.int .u64 (c0 : Int)) := by rw [M1.out.cb.cell]; exact cdsC_at hc0
  have z2 := M1.out.cb.frozen i
  clear hk hc0
  refine hK.out _ _ (fun _ => (by exact HS.out _ Q1.out)) (fun hHeld => ?_)
  clear hK K
  replace hHeld := hHeld (by kernel_rfl)
  (try simp only [Act.put, List.setIfInBounds_toArray, List.set_cons_zero, List.set_cons_succ])
  refine anyZ.take (i := 7) (oi := { dst := some 20, op := Op.indexAddr 124 (Operand.tmp 16) (Operand.tmp 17), type := 0, pos := _, after := #[{ on := 3, ground := Ground.data }, { on := 4, ground := Ground.data }, { on := 0, ground := Ground.phase }, { on := 1, ground := Ground.phase }, { on := 2, ground := Ground.phase }, { on := 3, ground := Ground.phase }, { on := 4, ground := Ground.phase }, { on := 5, ground := Ground.phase }, { on := 6, ground := Ground.phase }], guard := none }) (v := _) rfl (by kernel_rfl) (by kernel_rfl) (by kernel_rfl) (by kernel_rfl) (by kernel_rfl) (fun _ _ _ h => h) (Or.inl ⟨by rfl, by (intro wS hSw; (try dsimp only at hSw); go_simp; try with_reducible rfl)⟩) (by exact hHeld) ?_
  (try simp only [Act.put, List.setIfInBounds_toArray, List.set_cons_zero, List.set_cons_succ])
  refine anyZ.ready (rs := [8]) (by kernel_rfl) (by simp) ?_
  refine (AllZ.cons (o := { dst := none, op := Op.store 95 (Operand.tmp 20) (Operand.tmp 19), type := 0, pos := _, after := #[{ on := 7, ground := Ground.data }, { on := 6, ground := Ground.data }, { on := 6, ground := Ground.chain }, { on := 0, ground := Ground.phase }, { on := 1, ground := Ground.phase }, { on := 2, ground := Ground.phase }, { on := 3, ground := Ground.phase }, { on := 4, ground := Ground.phase }, { on := 5, ground := Ground.phase }, { on := 6, ground := Ground.phase }], guard := none }) rfl (fun K hK => ?_) AllZ.nil)
  go_simp
  refine hK.out _ _ (fun h => absurd h (by decide)) (fun hHeld => ?_)
  clear hK K
  (try simp only [Act.put, List.setIfInBounds_toArray, List.set_cons_zero, List.set_cons_succ])
  refine anyZ.done (by kernel_rfl) ?_ _
  clear hHeld
  have M2 := M1.out.put (d := v) HL.out rfl (c := encW v) (cl' := cl) ⟨hv, .inl rfl⟩ (.inr (.inr rfl)) (fun h => h)
  have K2 : Keep w.heap.size [g, a] w (W1.setCell ⟨a, i, none⟩ (.int .u64 (encW v : Int))) := (Q1.out.mono (Nat.le_refl _) (by simp)).setS (g := a) (by simp)
  have MM := Lib.hid M2
  have KK := Lib.hid K2
  clear M2 K2 x2 z2
  go_wp2_with fail
  go_ret
  exact ⟨rfl, _, MM.out, KK.out⟩
set_option maxHeartbeats 4000000 in
theorem flip_m (w : World) (g a : Nat) (D C : List Nat) (z b : Int) (h : MemC w g a true D C) : Calls Try.prog 24 #[bptr g, .int .i64 z, .int .i64 b] w fun e w' =>
    ∃ (r : Int) (C' : List Nat), e = .returned (.int .i64 r) ∧ MemC w' g a false D C' ∧ Keep w.heap.size [g, a] w w' := by
  by_cases hz : z < 0 ∨ (D.length : Int) ≤ z
  · have HH := Lib.hid h
    clear h
    go_enter Try.func24, Try.ntmps24
    go_wp2_with fail
    refine (check_out _ g a true D C z HH.out hz).mono ?_
    rintro e w' ⟨rfl, rfl⟩
    go_wp2_with fail
    go_ret
    exact ⟨1, C, rfl, HH.out.weak, Keep.refl _ _ _⟩
  obtain ⟨i, rfl⟩ := Int.eq_ofNat_of_zero_le (by omega : 0 ≤ z)
  have hi : i < D.length := by omega
  clear hz
  by_cases hb : b < 0
  · have HH := Lib.hid h
    have HL := Lib.hid hi
    clear h hi
    go_enter Try.func24, Try.ntmps24
    go_wp2_with fail
    refine (check_in _ g a true D C i HH.out HL.out).mono ?_
    rintro e w' ⟨rfl, rfl⟩
    go_wp2_with fail
    go_ret
    exact ⟨1, C, rfl, HH.out.weak, Keep.refl _ _ _⟩
  by_cases hb2 : 39 ≤ b
  · have HH := Lib.hid h
    have HL := Lib.hid hi
    clear h hi
    go_enter Try.func24, Try.ntmps24
    go_wp2_with fail
    refine (check_in _ g a true D C i HH.out HL.out).mono ?_
    rintro e w' ⟨rfl, rfl⟩
    go_wp2_with fail
    go_ret
    exact ⟨1, C, rfl, HH.out.weak, Keep.refl _ _ _⟩
  obtain ⟨q, rfl⟩ := Int.eq_ofNat_of_zero_le (by omega : 0 ≤ b)
  have hq : q < 39 := by omega
  obtain ⟨fx, hm⟩ := h.mb
  obtain ⟨n, hn⟩ : ∃ n, n = D.length := ⟨_, rfl⟩
  obtain ⟨d, hd⟩ : ∃ d, D[i]? = some d := ⟨_, List.getElem?_eq_getElem hi⟩
  obtain ⟨c, hc, hdl, hcw⟩ := h.cw i d hd
  have hce : c = encW d := by
    rcases hcw with h1 | ⟨h1, _⟩
    · exact h1
    · cases h1
  subst hce
  have hcl : encW d < 18446744073709551616 := enc_u64 hdl
  have h1 : w.cell? ⟨g, 1, none⟩ = some (.slice (some ⟨a, 0, none⟩) n n) := by rw [hn]; exact hm.cell 1
  have hi1 : (i : Int) < (n : Int) := by omega
  have hnI : (n : Int) ≤ 1000000 := by have := h.len; omega
  have HH := Lib.hid h
  have HL := Lib.hid hi
  have HN := Lib.hid hn
  have HC := Lib.hid hc
  have HD := Lib.hid hd
  clear hm hn h hi hc hd hcw
  go_enter Try.func24, Try.ntmps24
  go_wp2_with fail
  refine (check_in _ g a true D C i HH.out HL.out).mono ?_
  rintro e w' ⟨rfl, rfl⟩
  go_wp2_with fail
  have Q0 : Hid (Keep w.heap.size [] w w.drew) := Lib.hid (Keep.refl _ _ _).drew
  have HS : Hid (∀ F, Keep w.heap.size [] w F → F.cell? ⟨g, 1, none⟩ = some (.slice (some ⟨a, 0, none⟩) n n) ∧ F.cell? ⟨a, i, none⟩ = some (.int .u64 (encW d : Int))) := Lib.hid (fun F k => by
    have hm := HH.out.keepS k (by simp) (by simp)
    obtain ⟨fx, hb⟩ := hm.mb
    exact ⟨by rw [HN.out]; exact hb.cell 1, by rw [hm.cb.cell]; exact cdsC_at HC.out⟩)
  clear h1
  refine region_anyZ 15 (S := (fun w' => w'.cell? ⟨g, 1, none⟩ = some (.slice (some ⟨a, 0, none⟩) n n) ∧ w'.cell? ⟨a, i, none⟩ = some (.int .u64 (encW d : Int)))) (by kernel_rfl) (by exact HS.out _ Q0.out) (fun hHeld => ?_)
  refine anyZ.take (i := 0) (oi := { dst := some 20, op := Op.move (Operand.tmp 0), type := 54, pos := _, after := #[], guard := none }) (v := _) rfl (by kernel_rfl) (by kernel_rfl) (by kernel_rfl) (by kernel_rfl) (by kernel_rfl) (fun _ _ _ h => h) (Or.inl ⟨by rfl, by (intro wS hSw; (try dsimp only at hSw); go_simp; try with_reducible rfl)⟩) (by exact hHeld) ?_
  (try simp only [Act.put, List.setIfInBounds_toArray, List.set_cons_zero, List.set_cons_succ])
  refine anyZ.take (i := 1) (oi := { dst := some 21, op := Op.nilCheck (Operand.tmp 20), type := 0, pos := _, after := #[{ on := 0, ground := Ground.data }], guard := none }) (v := _) rfl (by kernel_rfl) (by kernel_rfl) (by kernel_rfl) (by kernel_rfl) (by kernel_rfl) (fun _ _ _ h => h) (Or.inl ⟨by rfl, by (intro wS hSw; (try dsimp only at hSw); go_simp; try with_reducible rfl)⟩) (by exact hHeld) ?_
  (try simp only [Act.put, List.setIfInBounds_toArray, List.set_cons_zero, List.set_cons_succ])
  refine anyZ.take (i := 2) (oi := { dst := some 22, op := Op.fieldAddr 126 (Operand.tmp 21) 1, type := 0, pos := _, after := #[{ on := 1, ground := Ground.data }], guard := none }) (v := _) rfl (by kernel_rfl) (by kernel_rfl) (by kernel_rfl) (by kernel_rfl) (by kernel_rfl) (fun _ _ _ h => h) (Or.inl ⟨by rfl, by (intro wS hSw; (try dsimp only at hSw); go_simp; try with_reducible rfl)⟩) (by exact hHeld) ?_
  (try simp only [Act.put, List.setIfInBounds_toArray, List.set_cons_zero, List.set_cons_succ])
  refine anyZ.take (i := 3) (oi := { dst := some 23, op := Op.load 124 (Operand.tmp 22), type := 124, pos := _, after := #[{ on := 2, ground := Ground.data }], guard := none }) (v := _) rfl (by kernel_rfl) (by kernel_rfl) (by kernel_rfl) (by kernel_rfl) (by kernel_rfl) (fun _ _ _ h => h) (Or.inl ⟨by rfl, by (intro wS hSw; (try dsimp only at hSw); go_simp; try with_reducible rfl)⟩) (by exact hHeld) ?_
  (try simp only [Act.put, List.setIfInBounds_toArray, List.set_cons_zero, List.set_cons_succ])
  refine anyZ.take (i := 4) (oi := { dst := some 24, op := Op.move (Operand.tmp 1), type := 3, pos := _, after := #[], guard := none }) (v := _) rfl (by kernel_rfl) (by kernel_rfl) (by kernel_rfl) (by kernel_rfl) (by kernel_rfl) (fun _ _ _ h => h) (Or.inl ⟨by rfl, by (intro wS hSw; (try dsimp only at hSw); go_simp; try with_reducible rfl)⟩) (by exact hHeld) ?_
  (try simp only [Act.put, List.setIfInBounds_toArray, List.set_cons_zero, List.set_cons_succ])
  refine anyZ.take (i := 5) (oi := { dst := some 25, op := Op.move (Operand.tmp 0), type := 54, pos := _, after := #[], guard := none }) (v := _) rfl (by kernel_rfl) (by kernel_rfl) (by kernel_rfl) (by kernel_rfl) (by kernel_rfl) (fun _ _ _ h => h) (Or.inl ⟨by rfl, by (intro wS hSw; (try dsimp only at hSw); go_simp; try with_reducible rfl)⟩) (by exact hHeld) ?_
  (try simp only [Act.put, List.setIfInBounds_toArray, List.set_cons_zero, List.set_cons_succ])
  refine anyZ.take (i := 6) (oi := { dst := some 26, op := Op.nilCheck (Operand.tmp 25), type := 0, pos := _, after := #[{ on := 5, ground := Ground.data }], guard := none }) (v := _) rfl (by kernel_rfl) (by kernel_rfl) (by kernel_rfl) (by kernel_rfl) (by kernel_rfl) (fun _ _ _ h => h) (Or.inl ⟨by rfl, by (intro wS hSw; (try dsimp only at hSw); go_simp; try with_reducible rfl)⟩) (by exact hHeld) ?_
  (try simp only [Act.put, List.setIfInBounds_toArray, List.set_cons_zero, List.set_cons_succ])
  refine anyZ.take (i := 7) (oi := { dst := some 27, op := Op.fieldAddr 126 (Operand.tmp 26) 1, type := 0, pos := _, after := #[{ on := 6, ground := Ground.data }], guard := none }) (v := _) rfl (by kernel_rfl) (by kernel_rfl) (by kernel_rfl) (by kernel_rfl) (by kernel_rfl) (fun _ _ _ h => h) (Or.inl ⟨by rfl, by (intro wS hSw; (try dsimp only at hSw); go_simp; try with_reducible rfl)⟩) (by exact hHeld) ?_
  (try simp only [Act.put, List.setIfInBounds_toArray, List.set_cons_zero, List.set_cons_succ])
  refine anyZ.take (i := 8) (oi := { dst := some 28, op := Op.load 124 (Operand.tmp 27), type := 124, pos := _, after := #[{ on := 7, ground := Ground.data }], guard := none }) (v := _) rfl (by kernel_rfl) (by kernel_rfl) (by kernel_rfl) (by kernel_rfl) (by kernel_rfl) (fun _ _ _ h => h) (Or.inl ⟨by rfl, by (intro wS hSw; (try dsimp only at hSw); go_simp; try with_reducible rfl)⟩) (by exact hHeld) ?_
  (try simp only [Act.put, List.setIfInBounds_toArray, List.set_cons_zero, List.set_cons_succ])
  refine anyZ.take (i := 9) (oi := { dst := some 29, op := Op.move (Operand.tmp 1), type := 3, pos := _, after := #[], guard := none }) (v := _) rfl (by kernel_rfl) (by kernel_rfl) (by kernel_rfl) (by kernel_rfl) (by kernel_rfl) (fun _ _ _ h => h) (Or.inl ⟨by rfl, by (intro wS hSw; (try dsimp only at hSw); go_simp; try with_reducible rfl)⟩) (by exact hHeld) ?_
  (try simp only [Act.put, List.setIfInBounds_toArray, List.set_cons_zero, List.set_cons_succ])
  refine anyZ.take (i := 10) (oi := { dst := some 30, op := Op.indexAddr 124 (Operand.tmp 28) (Operand.tmp 29), type := 0, pos := _, after := #[{ on := 8, ground := Ground.data }, { on := 9, ground := Ground.data }], guard := none }) (v := _) rfl (by kernel_rfl) (by kernel_rfl) (by kernel_rfl) (by kernel_rfl) (by kernel_rfl) (fun _ _ _ h => h) (Or.inl ⟨by rfl, by (intro wS hSw; (try dsimp only at hSw); go_simp; try with_reducible rfl)⟩) (by exact hHeld) ?_
  (try simp only [Act.put, List.setIfInBounds_toArray, List.set_cons_zero, List.set_cons_succ])
  refine anyZ.take (i := 11) (oi := { dst := some 31, op := Op.load 95 (Operand.tmp 30), type := 95, pos := _, after := #[{ on := 10, ground := Ground.data }], guard := none }) (v := _) rfl (by kernel_rfl) (by kernel_rfl) (by kernel_rfl) (by kernel_rfl) (by kernel_rfl) (fun _ _ _ h => h) (Or.inl ⟨by rfl, by (intro wS hSw; (try dsimp only at hSw); go_simp; try with_reducible rfl)⟩) (by exact hHeld) ?_
  (try simp only [Act.put, List.setIfInBounds_toArray, List.set_cons_zero, List.set_cons_succ])
  refine anyZ.take (i := 12) (oi := { dst := some 32, op := Op.move (Operand.tmp 2), type := 3, pos := _, after := #[], guard := none }) (v := _) rfl (by kernel_rfl) (by kernel_rfl) (by kernel_rfl) (by kernel_rfl) (by kernel_rfl) (fun _ _ _ h => h) (Or.inl ⟨by rfl, by (intro wS hSw; (try dsimp only at hSw); go_simp; try with_reducible rfl)⟩) (by exact hHeld) ?_
  (try simp only [Act.put, List.setIfInBounds_toArray, List.set_cons_zero, List.set_cons_succ])
  refine anyZ.ready (rs := [13]) (by kernel_rfl) (by simp) ?_
  refine (AllZ.cons (o := { dst := some 33, op := Op.call { callee := Callee.value (Operand.func 66), args := #[Operand.tmp 31, Operand.tmp 32], argTypes := #[95, 3] }, type := 95, pos := _, after := #[{ on := 11, ground := Ground.data }, { on := 12, ground := Ground.data }], guard := none }) rfl (fun K hK => ?_) AllZ.nil)
  go_simp
  refine (flip_w _ (encW d) q hcl hq).mono ?_
  rintro e W1 ⟨rfl, rfl⟩
  have M1 := Lib.hid (HH.out.keepS Q0.out (by simp) (by simp))
  have x2 := (HS.out _ Q0.out).2
  have z2 := M1.out.cb.frozen i
  refine hK.out _ _ (fun _ => (by exact HS.out _ Q0.out)) (fun hHeld => ?_)
  clear hK K
  replace hHeld := hHeld (by kernel_rfl)
  (try simp only [Act.put, List.setIfInBounds_toArray, List.set_cons_zero, List.set_cons_succ])
  refine anyZ.take (i := 14) (oi := { dst := some 34, op := Op.indexAddr 124 (Operand.tmp 23) (Operand.tmp 24), type := 0, pos := _, after := #[{ on := 3, ground := Ground.data }, { on := 4, ground := Ground.data }, { on := 0, ground := Ground.phase }, { on := 1, ground := Ground.phase }, { on := 2, ground := Ground.phase }, { on := 3, ground := Ground.phase }, { on := 4, ground := Ground.phase }, { on := 5, ground := Ground.phase }, { on := 6, ground := Ground.phase }, { on := 7, ground := Ground.phase }, { on := 8, ground := Ground.phase }, { on := 9, ground := Ground.phase }, { on := 10, ground := Ground.phase }, { on := 11, ground := Ground.phase }, { on := 12, ground := Ground.phase }, { on := 13, ground := Ground.phase }], guard := none }) (v := _) rfl (by kernel_rfl) (by kernel_rfl) (by kernel_rfl) (by kernel_rfl) (by kernel_rfl) (fun _ _ _ h => h) (Or.inl ⟨by rfl, by (intro wS hSw; (try dsimp only at hSw); go_simp; try with_reducible rfl)⟩) (by exact hHeld) ?_
  (try simp only [Act.put, List.setIfInBounds_toArray, List.set_cons_zero, List.set_cons_succ])
  refine anyZ.ready (rs := [15]) (by kernel_rfl) (by simp) ?_
  refine (AllZ.cons (o := { dst := none, op := Op.store 95 (Operand.tmp 34) (Operand.tmp 33), type := 0, pos := _, after := #[{ on := 14, ground := Ground.data }, { on := 13, ground := Ground.data }, { on := 13, ground := Ground.chain }, { on := 0, ground := Ground.phase }, { on := 1, ground := Ground.phase }, { on := 2, ground := Ground.phase }, { on := 3, ground := Ground.phase }, { on := 4, ground := Ground.phase }, { on := 5, ground := Ground.phase }, { on := 6, ground := Ground.phase }, { on := 7, ground := Ground.phase }, { on := 8, ground := Ground.phase }, { on := 9, ground := Ground.phase }, { on := 10, ground := Ground.phase }, { on := 11, ground := Ground.phase }, { on := 12, ground := Ground.phase }, { on := 13, ground := Ground.phase }], guard := none }) rfl (fun K hK => ?_) AllZ.nil)
  go_simp
  refine hK.out _ _ (fun h => absurd h (by decide)) (fun hHeld => ?_)
  clear hK K
  (try simp only [Act.put, List.setIfInBounds_toArray, List.set_cons_zero, List.set_cons_succ])
  refine anyZ.done (by kernel_rfl) ?_ _
  clear hHeld
  have M2 := M1.out.put (d := d) HL.out rfl (c := encW d ^^^ 2 ^ q) (cl' := false) ⟨hdl, .inr ⟨rfl, q, hq, rfl⟩⟩ (.inl rfl) (fun h => by cases h)
  have hset : D.set i d = D := by
    apply List.ext_getElem?
    intro j
    by_cases hji : i = j
    · subst hji; rw [List.getElem?_set_self HL.out, HD.out]
    · rw [List.getElem?_set_ne hji]
  rw [hset] at M2
  have K2 : Keep w.heap.size [g, a] w (w.drew.setCell ⟨a, i, none⟩ (.int .u64 ((encW d ^^^ 2 ^ q : Nat) : Int))) := (Q0.out.mono (Nat.le_refl _) (by simp)).setS (g := a) (by simp)
  have MM := Lib.hid M2
  have KK := Lib.hid K2
  clear M2 K2 x2 z2 hset
  go_wp2_with fail
  go_ret
  exact ⟨0, _, rfl, MM.out, KK.out⟩
end Go.Proofs.Ytfkbcflgbjncdaa
