/- The law OctetsPuts: its walk. -/
import Derived.Test.YtalhojnkdcopeaaLawB
namespace Go.Proofs.Ytalhojnkdcopeaa
set_option linter.unusedVariables false
set_option linter.unusedSimpArgs false
open Go.RowKit
theorem take_flat (l : List Vl) (k : Nat) (v : Vl) (h : l[k]? = some v) : (l.take (k + 1)).flatMap encV = (l.take k).flatMap encV ++ encV v := by
  rw [List.take_add_one, h, List.flatMap_append]
  simp
theorem flat_len {w : World} (l : List Vl) (hok : ∀ v ∈ l, VlOk w v) (hm : ∀ v ∈ l, v.m ≤ 200) : ∀ k, ((l.take k).flatMap encV).length ≤ 210 * k := by
  intro k
  induction k with
  | zero => simp
  | succ k ih =>
    cases h : l[k]? with
    | none =>
      rw [List.take_add_one, h]
      simp only [Option.toList_none, List.append_nil]
      omega
    | some v =>
      rw [take_flat l k v h]
      have := encV_len v (hok v (List.mem_of_getElem? h)) (hm v (List.mem_of_getElem? h))
      simp only [List.length_append]
      omega
/-- where an argument's octets lie -/
theorem VlOk.low {w : World} {v : Vl} (h : VlOk w v) (hm : 0 < v.m) : ∀ x, x ∈ blks v.X → x < w.heap.size := by
  intro x hx
  obtain ⟨b, o, hX, hlt, _⟩ := h.2.2.2.2.1.2 hm
  rw [hX] at hx
  simp [blks] at hx
  omega
def PutsRel (w : World) (g : Nat) (l : List Vl) (u : Value) (k : Nat) (wr : World) : Prop :=
  ∃ A Aw mw cw, u = .slice Aw mw cw ∧ WT w wr g A ((l.take k).flatMap encV) ∧ Sl wr 5 1 Aw mw cw (octs ((l.take k).flatMap encV)) ∧ (∀ x, x ∈ blks Aw → w.heap.size ≤ x) ∧ (∀ x, x ∈ blks Aw → x ∉ g :: blks A)
theorem strOf_self (s : ByteArray) : (s.toList == s.toList) = true := by simp
set_option maxRecDepth 10000 in
set_option maxHeartbeats 4000000 in
theorem puts_any (w : World) (A : Option Addr) (n c : Nat) (l : List Vl) (hnc : n ≤ c) (hcm : c ≤ maxLen) (hv : Vals w A n l) :
    Calls Try.prog 4 #[.slice A n c] w (LawPost w) := by
  have hcm' : (c : Int) ≤ 9223372036854775807 := by unfold maxLen at hcm; omega
  have hnc' : (n : Int) ≤ (c : Int) := by omega
  have HV := Lib.hid hv
  clear hv
  cases hlb : lightB l with
  | false =>
    have HLB := Lib.hid hlb
    clear hlb
    go_enter Try.func4, Try.ntmps4
    go_wp2_with fail
    refine (awake_any _).mono ?_
    rintro e w1 ⟨rfl, hk⟩
    have K1 := Lib.hid hk
    have HV1 := Lib.hid (HV.out.keep0 hk)
    clear hk
    go_wp2_with fail
    refine (light_b _ A n c l false HLB.out HV1.out hnc hcm).mono ?_
    rintro e w' ⟨rfl, rfl⟩
    go_wp2_with fail
    go_ret
    exact ⟨rfl, K1.out⟩
  | true =>
    have HLB := Lib.hid hlb
    obtain ⟨hl40, hm200⟩ := lightB_yes hlb
    have hn : n = l.length := HV.out.1
    have hn40 : (n : Int) ≤ 40 := by omega
    have HN := Lib.hid hn
    have HM := Lib.hid hm200
    clear hlb hl40 hm200 hn
    go_enter Try.func4, Try.ntmps4
    go_wp2_with fail
    refine (awake_any _).mono ?_
    rintro e w1 ⟨rfl, hk⟩
    have K1 := Lib.hid hk
    have HV1 := Lib.hid (HV.out.keep0 hk)
    clear hk
    go_wp2_with fail
    refine (light_b _ A n c l true HLB.out HV1.out hnc hcm).mono ?_
    rintro e w' ⟨rfl, rfl⟩
    go_wp2_with fail
    refine (wnew_any _).mono ?_
    rintro e w2 ⟨g, rfl, hg, hw, hk⟩
    have W2 : Hid (WT w w2 g none []) := ⟨K1.out.chain0 (Nat.le_refl _) hk, hw, Nat.le_trans K1.out.size hg, by simp [blks]⟩
    clear hg hw hk
    go_wp2_with fail
    obtain ⟨i0, hi0, hz0, hz1, hz2⟩ := info_parts infoU8
    go_loopw [4, 5] (fun u i wr => ∃ k : Nat, k ≤ n ∧ i = .int .i64 k ∧ PutsRel w g l u k wr) (fun _ i _ => n - (intOf i).toNat)
    case atStart => exact ⟨0, Nat.zero_le _, rfl, none, none, 0, 0, rfl, W2.out, Sl.nil _ _ _, by simp [blks], by simp [blks]⟩
    case round =>
      obtain ⟨k, hk, rfl, A3, Aw, mw, cw, rfl, hwt, hsw, hbw, hdw⟩ := hrel
      by_cases hlt : k < n
      · obtain ⟨b, o, hAeq, hb, hc⟩ := HV.out.2.2 (by omega)
        obtain ⟨v, hvk⟩ : ∃ v, l[k]? = some v := ⟨l[k]'(by have := HN.out; omega), List.getElem?_eq_getElem _⟩
        have hvm := List.mem_of_getElem? hvk
        have hat := hc k v hvk
        have e0 := (hwt.keep.cell (p := ⟨b, o + k * 4, none⟩) hb (by simp)).trans hat.1
        have e1 := (hwt.keep.cell (p := ⟨b, o + k * 4 + 1, none⟩) hb (by simp)).trans hat.2.1
        have e2 := (hwt.keep.cell (p := ⟨b, o + k * 4 + 2, none⟩) hb (by simp)).trans hat.2.2.1
        have e3 := (hwt.keep.cell (p := ⟨b, o + k * 4 + 3, none⟩) hb (by simp)).trans hat.2.2.2
        subst hAeq
        have hkn : (k : Int) < (n : Int) := by omega
        have hm2 := HM.out v hvm
        have HOK := Lib.hid (HV.out.2.1 v hvm)
        have HLE := Lib.hid (flat_len l HV.out.2.1 HM.out k)
        have HTF := Lib.hid (take_flat l k v hvk)
        obtain ⟨E, hE⟩ : ∃ E, (l.take k).flatMap encV = E := ⟨_, rfl⟩
        obtain ⟨V, hV⟩ : ∃ V, encV v = V := ⟨_, rfl⟩
        rw [hE] at hwt hsw HLE HTF
        rw [hV] at HTF
        have hlv : V.length ≤ 210 := by rw [← hV]; exact encV_len v HOK.out hm2
        have hmw : mw = E.length := by simpa [octs] using hsw.1.symm
        have hEl : E.length ≤ 8400 := by have := HLE.out; omega
        have W3 := Lib.hid hwt
        have SW3 := Lib.hid hsw
        have HBW := Lib.hid hbw
        have HDW := Lib.hid hdw
        have HVV := Lib.hid hV
        have HMW := Lib.hid hmw
        have hmw2 : mw ≤ 8400 := by omega
        clear hE hV hwt hsw hbw hdw hvk hvm hat hc hmw HLE
        have HLE := Lib.hid hEl
        go_wp2_with fail
        refine (put_any _ g A3 E V v HVV.out (fun hm x hx hmem => by
          have h1 := HOK.out.low hm x hx
          rcases List.mem_cons.1 hmem with h | h
          · have := W3.out.hg; omega
          · have := W3.out.hA x h; omega) hm2 (by have := HLE.out; omega) (HOK.out.keep0 W3.out.keep) W3.out.wr).mono ?_
        rintro e w4 ⟨A4, A2, n2, c2, rfl, hn2, hw4, hv4, hk4, hb4, hb2⟩
        have W4 := Lib.hid (W3.out.next hw4 hk4 hb4)
        have SW4 := Lib.hid (SW3.out.keepS hk4 HDW.out)
        have HV4 := Lib.hid hv4
        have HN2 := Lib.hid hn2
        have hn2' : n2 ≤ 210 := by omega
        have HD4 : Hid (∀ x, x ∈ blks Aw → x ∉ g :: blks A4) := fun x hx hm => by
          have h0 := SW3.out.blk hx
          rcases List.mem_cons.1 hm with h | h
          · exact HDW.out x hx (List.mem_cons.2 (.inl h))
          · rcases hb4 x h with h | h
            · exact HDW.out x hx (List.mem_cons_of_mem _ h)
            · omega
        clear hw4 hk4 hb4 hb2 hv4 hn2
        go_wp2_with (at_builtin
                     refine wpList_appV _ rfl (.tmp 29) (.tmp 30) 22 rfl 5 i0 _ 1 1 Try.underlying22 hi0 hz0 hz1 hz2 rfl (by omega) Aw mw cw (octs E) rfl (by exact SW4.out) A2 n2 c2 (octs V) rfl HV4.out (oct_one V) (by omega) (by omega) ?_
                     intro A5 c5 w5 hs5 hk5 hb5
                     have HS5' := Lib.hid hs5
                     have HK5 := Lib.hid hk5
                     have HB5 := Lib.hid hb5
                     clear hs5 hk5 hb5)
        have HS5 : Hid (Sl w5 5 1 A5 (mw + n2) c5 (octs (E ++ V))) := by simpa [octs, Hid] using HS5'.out
        have W5 : Hid (WT w w5 g A4 (E ++ V)) := by
          refine ⟨W4.out.keep.chain (Nat.le_refl _) HK5.out HBW.out, W4.out.wr.keepS HK5.out (fun h => HD4.out g h (List.mem_cons.2 (.inl rfl))) (fun x hx h => HD4.out x h (List.mem_cons_of_mem _ hx)), W4.out.hg, W4.out.hA⟩
        have HB5a : Hid (∀ x, x ∈ blks A5 → w.heap.size ≤ x) := fun x hx => by
          rcases HB5.out x hx with h | h
          · exact HBW.out x h
          · have := W4.out.keep.size; omega
        have HD5 : Hid (∀ x, x ∈ blks A5 → x ∉ g :: blks A4) := fun x hx hm => by
          rcases HB5.out x hx with h | h
          · exact HD4.out x h hm
          · rcases List.mem_cons.1 hm with h' | h'
            · have := W4.out.wr.lt; omega
            · have := W4.out.wr.blk x h'; omega
        obtain ⟨S1, hS1⟩ : ∃ S1, strOfNums (E ++ V) = S1 := ⟨_, rfl⟩
        have hsz1 : S1.size ≤ 10000 := by rw [← hS1, strOfNums_size]; simp; omega
        have HCV : Hid (∀ W, Keep w5.heap.size [] w5 W → (convert 22 9 (.slice A5 (mw + n2) c5)).run Try.prog W = .ok (.string S1) W) := fun W hW => by
          rw [← hS1]
          exact conv_str 22 9 5 Try.underlying22 Try.underlying5 Try.underlying9 _ _ _ _ ((HS5.out.keep0 hW).vw (by omega))
        have HCA : Hid (∀ W A n1 c1, Sl W 5 1 A n1 c1 (octs (E ++ V)) → (convert 22 9 (.slice A n1 c1)).run Try.prog W = .ok (.string S1) W) := fun W A n1 c1 hs => by
          rw [← hS1]
          exact conv_str 22 9 5 Try.underlying22 Try.underlying5 Try.underlying9 _ _ _ _ (hs.vw (by omega))
        have s5 := HCV.out w5.drew (Keep.refl _ _ _).drew
        clear hS1
        refine wp_region_held_drew (S := (fun w' => (convert 22 9 (.slice A5 (mw + n2) c5)).run Try.prog w' = .ok (.string S1) w')) (by kernel_rfl) (by exact s5) (fun hHeld => ?_)
        refine wpAnyH_take (i := 0) (oi := { dst := some 32, op := Op.move (Operand.tmp 7), type := 4, pos := _, after := #[], guard := none }) (v := _) rfl (by kernel_rfl) (by kernel_rfl) (by kernel_rfl) (fun _ _ _ h => h) (Or.inl ⟨by rfl, by (intro wS hSw; (try dsimp only at hSw); go_simp; try with_reducible rfl)⟩) (by assumption) ?_
        (try simp only [Act.put, List.setIfInBounds_toArray, List.set_cons_zero, List.set_cons_succ])
        refine wpAnyH_take (i := 1) (oi := { dst := some 33, op := Op.unOp UnOp.not 4 (Operand.tmp 32), type := 4, pos := _, after := #[{ on := 0, ground := Ground.data }], guard := none }) (v := _) rfl (by kernel_rfl) (by kernel_rfl) (by kernel_rfl) (fun _ _ _ h => h) (Or.inl ⟨by rfl, by (intro wS hSw; (try dsimp only at hSw); go_simp; try with_reducible rfl)⟩) (by assumption) ?_
        (try simp only [Act.put, List.setIfInBounds_toArray, List.set_cons_zero, List.set_cons_succ])
        refine wpAnyH_take (i := 2) (oi := { dst := some 34, op := Op.move (Operand.tmp 33), type := 4, pos := _, after := #[{ on := 1, ground := Ground.data }], guard := none }) (v := _) rfl (by kernel_rfl) (by kernel_rfl) (by kernel_rfl) (fun _ _ _ h => h) (Or.inl ⟨by rfl, by (intro wS hSw; (try dsimp only at hSw); go_simp; try with_reducible rfl)⟩) (by assumption) ?_
        (try simp only [Act.put, List.setIfInBounds_toArray, List.set_cons_zero, List.set_cons_succ])
        refine wpAnyH_take (i := 3) (oi := { dst := some 35, op := Op.move (Operand.tmp 3), type := 29, pos := _, after := #[{ on := 2, ground := Ground.guard }], guard := some (2, false) }) (v := _) rfl (by kernel_rfl) (by kernel_rfl) (by kernel_rfl) (fun _ _ _ h => h) (Or.inl ⟨by rfl, by (intro wS hSw; (try dsimp only at hSw); go_simp; try with_reducible rfl)⟩) (by assumption) ?_
        (try simp only [Act.put, List.setIfInBounds_toArray, List.set_cons_zero, List.set_cons_succ])
        refine wpAnyH_take (i := 6) (oi := { dst := some 38, op := Op.move (Operand.tmp 4), type := 22, pos := _, after := #[{ on := 2, ground := Ground.guard }], guard := some (2, false) }) (v := _) rfl (by kernel_rfl) (by kernel_rfl) (by kernel_rfl) (fun _ _ _ h => h) (Or.inl ⟨by rfl, by (intro wS hSw; (try dsimp only at hSw); go_simp; try with_reducible rfl)⟩) (by assumption) ?_
        (try simp only [Act.put, List.setIfInBounds_toArray, List.set_cons_zero, List.set_cons_succ])
        refine wpAnyH_take (i := 7) (oi := { dst := some 39, op := Op.convert 22 9 (Operand.tmp 38), type := 9, pos := _, after := #[{ on := 6, ground := Ground.data }, { on := 2, ground := Ground.guard }], guard := some (2, false) }) (v := _) rfl (by kernel_rfl) (by kernel_rfl) (by kernel_rfl) (fun _ _ _ h => h) (Or.inl ⟨by rfl, by (intro wS hSw; (try dsimp only at hSw); go_simp; try with_reducible rfl)⟩) (by assumption) ?_
        (try simp only [Act.put, List.setIfInBounds_toArray, List.set_cons_zero, List.set_cons_succ])
        refine wpAnyH_ready (rs := [4]) (by kernel_rfl) (by simp) ?_
        refine AllReadyH.cons (o := { dst := some 36, op := Op.call { callee := Callee.value (Operand.func 15), args := #[Operand.tmp 35], argTypes := #[29] }, type := 22, pos := _, after := #[{ on := 3, ground := Ground.data }, { on := 2, ground := Ground.chain }, { on := 2, ground := Ground.guard }], guard := some (2, false) }) rfl (fun K hK => ?_) AllReadyH.nil
        go_simp
        refine (wbytes_any _ g A4 _ (by exact W5.out.wr) (by simp; have := HLE.out; omega)).mono ?_
        rintro e w7 ⟨A7, n7, c7, rfl, hn, hs, hk, hb⟩
        have hk' := hk.undrew
        have s7 := HCV.out w7 hk'
        have t7 := HCA.out w7 A7 n7 c7 hs
        have W7 := Lib.hid (W5.out.other hk')
        have HW7 : Hid (Sl w7 5 1 A5 (mw + n2) c5 (octs (E ++ V))) := HS5.out.keep0 hk'
        clear hn hs hk hb hk'
        refine hK.out _ _ (by exact s7) (fun hHeld => ?_)
        clear hK K
        (try simp only [Act.put, List.setIfInBounds_toArray, List.set_cons_zero, List.set_cons_succ])
        refine wpAnyH_ready (rs := [5]) (by kernel_rfl) (by simp) ?_
        refine AllReadyH.cons (o := { dst := some 37, op := Op.convert 22 9 (Operand.tmp 36), type := 9, pos := _, after := #[{ on := 4, ground := Ground.data }, { on := 2, ground := Ground.guard }], guard := some (2, false) }) rfl (fun K hK => ?_) AllReadyH.nil
        go_simp
        refine hK.out _ _ (by exact s7) (fun hHeld => ?_)
        clear hK K
        (try simp only [Act.put, List.setIfInBounds_toArray, List.set_cons_zero, List.set_cons_succ])
        refine wpAnyH_take (i := 8) (oi := { dst := some 40, op := Op.binOp BinOp.neq 9 (Operand.tmp 37) (Operand.tmp 39) 9, type := 4, pos := _, after := #[{ on := 5, ground := Ground.data }, { on := 7, ground := Ground.data }, { on := 2, ground := Ground.guard }], guard := some (2, false) }) (v := _) rfl (by kernel_rfl) (by kernel_rfl) (by kernel_rfl) (fun _ _ _ h => h) (Or.inl ⟨by rfl, by (intro wS hSw; (try dsimp only at hSw); go_simp; try with_reducible rfl)⟩) (by assumption) ?_
        (try simp only [Act.put, List.setIfInBounds_toArray, List.set_cons_zero, List.set_cons_succ])
        refine wpAnyH_take (i := 9) (oi := { dst := some 41, op := Op.pick (Operand.tmp 34) (Operand.const (Value.bool true)) (Operand.tmp 40), type := 4, pos := _, after := #[{ on := 2, ground := Ground.data }, { on := 8, ground := Ground.data }], guard := none }) (v := _) rfl (by kernel_rfl) (by kernel_rfl) (by kernel_rfl) (fun _ _ _ h => h) (Or.inl ⟨by rfl, by (intro wS hSw; (try dsimp only at hSw); go_simp; try with_reducible rfl)⟩) (by assumption) ?_
        (try simp only [Act.put, List.setIfInBounds_toArray, List.set_cons_zero, List.set_cons_succ])
        refine wpAnyH_done (by kernel_rfl) ?_ _
        go_wp2_with fail
        go_roundw
        case rel =>
          refine ⟨k + 1, by omega, by go_num, A4, A5, mw + n2, c5, rfl, ?_, ?_, HB5a.out, HD5.out⟩
          · rw [HTF.out]; exact W7.out
          · rw [HTF.out]; exact HW7.out
        case measure => simp [intOf] <;> omega
      · obtain rfl : k = n := by omega
        have K3 := Lib.hid hwt.keep
        clear hwt hsw hbw hdw
        go_wp2_with fail
        go_ret
        exact ⟨rfl, K3.out⟩
end Go.Proofs.Ytalhojnkdcopeaa
