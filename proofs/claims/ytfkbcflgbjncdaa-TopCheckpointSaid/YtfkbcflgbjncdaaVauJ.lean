/- The vault: Save, interrupted anywhere. -/
import Derived.Test.YtfkbcflgbjncdaaVauI
import Derived.Deep.DeepCutAuto
namespace Go.Proofs.Ytfkbcflgbjncdaa
set_option linter.unusedVariables false
set_option linter.unusedSimpArgs false
open Go.RowKit
/-- the memory behind k writes of the words l to the copy at 'at_' -/
structure SvD (D : List Nat) (at_ : Nat) (l : List Nat) (k : Nat) (D' : List Nat) : Prop where
  len : D'.length = D.length
  out : ∀ p, p < at_ ∨ at_ + l.length ≤ p → D'[p]? = D[p]?
  head : k ≤ l.length → D'[at_]? = some 0
  mid : ∀ j, 1 ≤ j → j < k → j < l.length → D'[at_ + j]? = l[j]?
  full : k = l.length + 1 → D'[at_]? = l[0]?
theorem SvD.zero {D : List Nat} {at_ : Nat} {l : List Nat} (h : D[at_]? = some 0) : SvD D at_ l 0 D := ⟨rfl, fun _ _ => rfl, fun _ => h, fun j h1 h2 _ => by omega, fun h => by omega⟩
theorem SvD.one {D D' : List Nat} {at_ : Nat} {l : List Nat} (h : SvD D at_ l 0 D') (ha : at_ + l.length ≤ D.length) (hl : 1 ≤ l.length) : SvD D at_ l 1 (D'.set at_ 0) := by
  have hlt : at_ < D'.length := by rw [h.len]; omega
  refine ⟨by rw [List.length_set]; exact h.len, fun p hp => ?_, fun _ => List.getElem?_set_self hlt, fun j h1 h2 _ => by omega, fun h => by omega⟩
  rw [List.getElem?_set_ne (by omega)]
  exact h.out p hp
theorem SvD.more {D D' : List Nat} {at_ k x : Nat} {l : List Nat} (h : SvD D at_ l k D') (ha : at_ + l.length ≤ D.length) (h1 : 1 ≤ k) (hk : k < l.length) (hx : l[k]? = some x) : SvD D at_ l (k + 1) (D'.set (at_ + k) x) := by
  have hlt : at_ + k < D'.length := by rw [h.len]; omega
  refine ⟨by rw [List.length_set]; exact h.len, fun p hp => ?_, fun _ => ?_, fun j h2 h3 h4 => ?_, fun h => by omega⟩
  · rw [List.getElem?_set_ne (by omega)]
    exact h.out p hp
  · rw [List.getElem?_set_ne (by omega)]
    exact h.head (by omega)
  · by_cases hj : j = k
    · subst hj
      rw [List.getElem?_set_self hlt, hx]
    · rw [List.getElem?_set_ne (by omega)]
      exact h.mid j h2 (by omega) h4
theorem SvD.last {D D' : List Nat} {at_ x : Nat} {l : List Nat} (h : SvD D at_ l l.length D') (ha : at_ + l.length ≤ D.length) (hl : 1 ≤ l.length) (hx : l[0]? = some x) : SvD D at_ l (l.length + 1) (D'.set at_ x) := by
  have hlt : at_ < D'.length := by rw [h.len]; omega
  refine ⟨by rw [List.length_set]; exact h.len, fun p hp => ?_, fun h => by omega, fun j h2 h3 h4 => ?_, fun _ => by rw [List.getElem?_set_self hlt, hx]⟩
  · rw [List.getElem?_set_ne (by omega)]
    exact h.out p hp
  · rw [List.getElem?_set_ne (by omega)]
    exact h.mid j h2 (by omega) h4
/-- the words of a copy fit -/
theorem wordsF_lt {G : Nat} {b : List Int} (hG : G < 4294967296) (hO : Oct b) (hb : b.length ≤ 788) {k x : Nat} (hx : (wordsF G b)[k]? = some x) : x < 4294967296 := by
  have hm := List.mem_of_getElem? hx
  unfold wordsF heads at hm
  rcases List.mem_append.1 hm with hm | hm
  · rcases List.mem_cons.1 hm with rfl | hm
    · exact hG
    rcases List.mem_cons.1 hm with rfl | hm
    · omega
    unfold pks at hm
    obtain ⟨j, _, rfl⟩ := List.mem_map.1 hm
    exact pkw_lt hO j _
  · rcases List.mem_singleton.1 hm with rfl
    exact crc_lt (octW_oct _)
theorem Holds.out {D D' : List Nat} {at_ k i : Nat} {l : List Nat} {o : Option (Nat × List Int)} (h : SvD D at_ l k D') (ha : at_ = 200 * (1 - i)) (hi : i < 2) (hl : l.length ≤ 200) (ho : Holds D i o) : Holds D' i o := by
  cases o with
  | none => 
    show D'[200 * i]? = some 0
    rw [h.out _ (by omega)]
    exact ho
  | some x =>
    obtain ⟨G, b⟩ := x
    obtain ⟨h1, h2, h3, h4⟩ := ho
    refine ⟨h1, h2, h3, fun j x hj => ?_⟩
    have hj2 : j < nw b + 3 := by have := (List.getElem?_eq_some_iff.1 hj).1; rwa [wordsF_len] at this
    have hb : nw b ≤ 197 := by unfold nw; omega
    rw [h.out _ (by omega)]
    exact h4 j x hj
theorem Holds.made {D D' : List Nat} {at_ k i G : Nat} {b : List Int} (h : SvD D at_ (wordsF G b) k D') (ha : at_ = 200 * i) (hG : 1 ≤ G ∧ G < 4294967296) (hO : Oct b) (hb : b.length ≤ 788) (hk : k ≤ nw b + 4) :
    Holds D' i (if k = nw b + 4 then some (G, b) else none) := by
  have hwl := wordsF_len G b
  subst ha
  split
  · rename_i hk'
    refine ⟨hG, hO, hb, fun j x hj => ?_⟩
    have hj2 : j < nw b + 3 := by have := (List.getElem?_eq_some_iff.1 hj).1; rwa [hwl] at this
    by_cases h0 : j = 0
    · subst h0
      rw [Nat.add_zero, h.full (by omega), hj]
    · rw [h.mid j (by omega) (by omega) (by omega), hj]
  · exact h.head (by omega)
def SavePost (w : World) (g a : Nat) (D : List Nat) (i G : Nat) (b : List Int) (o : Option (Nat × List Int)) (z : Int) (e : Ending) (w' : World) : Prop :=
  ∃ (f : Bool) (D' C' : List Nat), e = .returned (.int .i64 (if f then 0 else 17)) ∧ (z < 0 → f = true) ∧ D'.length = 400 ∧ Holds D' i (if f then some (G, b) else none) ∧ Holds D' (1 - i) o ∧ MemC w' g a true D' C' ∧ Keep w.heap.size [g, a] w w'
set_option maxRecDepth 100000 in
set_option maxHeartbeats 8000000 in
theorem save_h (w : World) (v g a : Nat) (D C : List Nat) (o0 o1 o : Option (Nat × List Int)) (i G : Nat) (X : Option Addr) (c : Nat) (b : List Int) (n : Nat) (z : Int) (hn : n = b.length)
    (hb : VB w v g) (h : MemC w g a true D C) (hl : D.length = 400) (h0 : Holds D 0 o0) (h1 : Holds D 1 o1) (hvg : v ∉ [g, a])
    (hO : Oct b) (hbl : b.length ≤ 788) (hv : Vw w X n 1 (octs b)) (hnc : n ≤ c) (hcm : c ≤ maxLen) (hX : ∀ x, x ∈ blks X → x ∉ [g, a])
    (hi : olderN o0 o1 = i) (hi2 : i < 2) (hz : D[200 * i]? = some 0) (ho : Holds D (1 - i) o) (hG : gen (pick o0 o1).2 + 1 = G) (hG2 : G < 4294967296) :
    Calls Try.prog 23 #[bptr v, .slice X n c, .int .i64 z] w (SavePost w g a D i G b o z) := by
  have HB := Lib.hid hb
  have HH := Lib.hid h
  have H0 := Lib.hid h0
  have H1 := Lib.hid h1
  have HV := Lib.hid hv
  have HO := Lib.hid hO
  have HX := Lib.hid hX
  have HI := Lib.hid hi
  have HZ := Lib.hid hz
  have HOO := Lib.hid ho
  have HG := Lib.hid hG
  have HNB := Lib.hid hn
  have hnI : ¬ (788 : Int) < (n : Int) := by omega
  have hnI2 : (n : Int) ≤ 788 := by omega
  obtain ⟨p, hp⟩ : ∃ p, p = gen (pick o0 o1).2 := ⟨_, rfl⟩
  have HP := Lib.hid hp
  have e1 : (p : Int) + 1 = (G : Int) := by omega
  have e2 : ¬ (4294967295 : Int) < (G : Int) := by omega
  have e3 : (p : Int) ≤ 4294967295 := by omega
  have e4 : (0 : Int) ≤ (p : Int) := by omega
  clear hb h h0 h1 hv hO hX hi hz ho hG hn hp
  have hgl : g < w.heap.size := by obtain ⟨_, hm⟩ := HH.out.mb; exact hm.lt
  have hal : a < w.heap.size := HH.out.cb.lt
  go_enter Try.func23, Try.ntmps23
  go_wp2_with fail
  refine (usable_w _ v g HB.out).mono ?_
  rintro e w' ⟨rfl, rfl⟩
  go_wp2_with fail
  refine (gener_h _ v g a true D C o0 o1 HB.out HH.out hl H0.out H1.out hvg).mono ?_
  rw [← HP.out]
  rintro e W1 ⟨rfl, C1, hm1, hk1⟩
  have M1 := Lib.hid hm1
  have K1 := Lib.hid hk1
  have B1 := Lib.hid (HB.out.keepS K1.out hvg)
  clear hm1 hk1
  go_wp2_with fail
  refine (room_w _ v g B1.out).mono ?_
  rintro e w' ⟨rfl, rfl⟩
  go_wp2_with fail
  refine (words_w _ G X n c b hG2 HO.out (by have h := HV.out.keepS K1.out HX.out; exact h) hnc hcm (by omega)).mono ?_
  rintro e W2 ⟨A, m, c', rfl, hm, hs, hk2, hA⟩
  have HM := Lib.hid hm
  have SL := Lib.hid hs
  have HA := Lib.hid hA
  have hmb : m ≤ 200 := by rw [hm]; unfold nw; omega
  have hm3 : 3 ≤ m := by omega
  have M2 := Lib.hid (M1.out.keepS hk2 (by simp) (by simp))
  have K2 := Lib.hid (K1.out.trans (hk2.mono K1.out.size (by simp)))
  have B2 := Lib.hid (HB.out.keepS K2.out hvg)
  clear hm hs hk2 hA
  go_wp2_with fail
  refine (Older_h _ v g a true D C1 o0 o1 B2.out M2.out hl H0.out H1.out hvg).mono ?_
  rw [HI.out]
  rintro e W3 ⟨rfl, C3, hm3', hk3⟩
  have M3 := Lib.hid hm3'
  have K3 := Lib.hid (K2.out.trans (hk3.mono K2.out.size (fun _ _ h => h)))
  have hAn : ∀ y, y ∈ blks A → y ∉ [g, a] := fun y hy => by have := HA.out y hy; have := K1.out.size; simp; omega
  have S3 := Lib.hid (SL.out.keepS hk3 hAn)
  have B3 := Lib.hid (HB.out.keepS K3.out hvg)
  clear hm3' hk3
  obtain ⟨J, hJ⟩ : ∃ J, J = 200 * i := ⟨_, rfl⟩
  rw [← hJ]
  have HJ := Lib.hid hJ
  have hJ2 : J ≤ 200 := by omega
  clear hJ
  obtain ⟨N, hN⟩ : ∃ N, N = m + 1 := ⟨_, rfl⟩
  have e5 : (m : Int) + 1 = (N : Int) := by omega
  have HN := Lib.hid hN
  clear hN
  have HWL : Hid ((wordsF G b).length = m) := Lib.hid (by rw [wordsF_len, HM.out])
  have HZJ : Hid (D[J]? = some 0) := Lib.hid (by rw [HJ.out]; exact HZ.out)
  have HAn := Lib.hid hAn
  clear hAn
  rcases (by omega : z < 0 ∨ (0 ≤ z ∧ (N : Int) < z) ∨ (0 ≤ z ∧ z ≤ (N : Int))) with hz0 | ⟨hz0, hzN⟩ | ⟨hz0, hzN⟩
  · obtain ⟨dn, hdn⟩ : ∃ dn, dn = N := ⟨_, rfl⟩
    have HDN : Hid (z < 0 → dn = dn) := Lib.hid (fun _ => rfl)
    have hdle : dn ≤ dn := Nat.le_refl _
    subst hdn
    go_wp2_with fail
    go_loopw [43] (fun ii wr => ∃ (k : Nat) (D' C' : List Nat), k ≤ dn ∧ ii = .int .i64 k ∧ SvD D J (wordsF G b) k D' ∧ MemC wr g a true D' C' ∧ Keep W3.heap.size [g, a] W3 wr) (fun ii _ => dn - (intOf ii).toNat)
    case atStart => exact ⟨0, D, C3, by omega, rfl, SvD.zero HZJ.out, M3.out, Keep.refl _ _ _⟩
    case round =>
      obtain ⟨k, D', C', hk, rfl, hsv, hm, hkw⟩ := hrel
      have SV := Lib.hid hsv
      have MM := Lib.hid hm
      have KV := Lib.hid hkw
      have KW := Lib.hid (K3.out.trans (KV.out.mono K3.out.size (fun _ _ h => h)))
      have BB := Lib.hid (HB.out.keepS KW.out hvg)
      have y0 : wr.cell? ⟨v, 0, none⟩ = some (bptr g) := BB.out.cell 0
      have SW := Lib.hid (S3.out.keepS KV.out HAn.out)
      clear hsv hm hkw
      by_cases hlt : k < dn
      · have hki : (k : Int) < (dn : Int) := by omega
        by_cases hk0 : k = 0
        · subst hk0
          rw [show ((0 : Nat) : Int) = 0 from rfl] at hki ⊢
          go_wp2_with fail
          refine (write_m _ g a true D' C' J 0 MM.out (by rw [SV.out.len]; omega) (by omega)).mono ?_
          rintro e W5 ⟨rfl, C5, hm5, hk5⟩
          have M5 := Lib.hid hm5
          have K5 := Lib.hid (KV.out.trans (hk5.mono KV.out.size (fun _ _ h => h)))
          clear hm5 hk5
          go_wp2_with fail
          go_roundw
          case rel => exact ⟨1, _, C5, by omega, rfl, SV.out.one (by rw [HWL.out]; omega) (by rw [HWL.out]; omega), M5.out, K5.out⟩
          case measure => simp [intOf] <;> omega
        · have hk0i : ¬ (k : Int) = 0 := by omega
          have hk0b : ((k : Int) == 0) = false := by rw [beq_eq_false_iff_ne]; exact hk0i
          by_cases hkm : k < m
          · have hkmi : (k : Int) < (m : Int) := by omega
            obtain ⟨q, hq⟩ : ∃ q, q = J + k := ⟨_, rfl⟩
            have e6 : (J : Int) + (k : Int) = (q : Int) := by omega
            have ew6 : IntKind.i64.wrap (q : Int) = (q : Int) := i64w' q (by omega)
            obtain ⟨x, hx⟩ : ∃ x, (wordsF G b)[k]? = some x := ⟨_, List.getElem?_eq_getElem (by rw [HWL.out]; exact hkm)⟩
            obtain ⟨xb, rfl, hxl, hxc⟩ : ∃ y, A = some ⟨y, 0, none⟩ ∧ y < wr.heap.size ∧ wr.cell? ⟨y, k, none⟩ = some (.int .u32 (x : Int)) := by
              obtain ⟨y, h1, h2, h3⟩ := SW.out.cell (j := k) (by omega)
              exact ⟨y, h1, h2, by rw [h3]; unfold u32s; rw [List.getElem?_map, hx]; rfl⟩
            have hxb : x < 4294967296 := wordsF_lt hG2 HO.out hbl hx
            have HX2 := Lib.hid hx
            have HQ := Lib.hid hq
            clear hx hq
            go_wp2_with fail
            have y0d : wr.drew.cell? ⟨v, 0, none⟩ = some (bptr g) ∧ wr.drew.cell? ⟨xb, k, none⟩ = some (.int .u32 (x : Int)) := ⟨y0, hxc⟩
            have MD := Lib.hid MM.out.drew1
            refine wp_region_held_drew (S := (fun w' => w'.cell? ⟨v, 0, none⟩ = some (bptr g) ∧ w'.cell? ⟨xb, k, none⟩ = some (.int .u32 (x : Int)))) (by kernel_rfl) (by exact y0d) (fun hHeld => ?_)
            refine wpAnyH_take (i := 0) (oi := { dst := some 69, op := Op.move (Operand.tmp 0), type := 56, pos := _, after := #[], guard := none }) (v := _) rfl (by kernel_rfl) (by kernel_rfl) (by kernel_rfl) (fun _ _ _ h => h) (Or.inl ⟨by rfl, by (intro wS hSw; (try dsimp only at hSw); go_simp; try with_reducible rfl)⟩) (by assumption) ?_
            (try simp only [Act.put, List.setIfInBounds_toArray, List.set_cons_zero, List.set_cons_succ])
            refine wpAnyH_take (i := 1) (oi := { dst := some 70, op := Op.nilCheck (Operand.tmp 69), type := 0, pos := _, after := #[{ on := 0, ground := Ground.data }], guard := none }) (v := _) rfl (by kernel_rfl) (by kernel_rfl) (by kernel_rfl) (fun _ _ _ h => h) (Or.inl ⟨by rfl, by (intro wS hSw; (try dsimp only at hSw); go_simp; try with_reducible rfl)⟩) (by assumption) ?_
            (try simp only [Act.put, List.setIfInBounds_toArray, List.set_cons_zero, List.set_cons_succ])
            refine wpAnyH_take (i := 2) (oi := { dst := some 71, op := Op.fieldAddr 131 (Operand.tmp 70) 0, type := 0, pos := _, after := #[{ on := 1, ground := Ground.data }], guard := none }) (v := _) rfl (by kernel_rfl) (by kernel_rfl) (by kernel_rfl) (fun _ _ _ h => h) (Or.inl ⟨by rfl, by (intro wS hSw; (try dsimp only at hSw); go_simp; try with_reducible rfl)⟩) (by assumption) ?_
            (try simp only [Act.put, List.setIfInBounds_toArray, List.set_cons_zero, List.set_cons_succ])
            refine wpAnyH_take (i := 3) (oi := { dst := some 72, op := Op.load 54 (Operand.tmp 71), type := 54, pos := _, after := #[{ on := 2, ground := Ground.data }], guard := none }) (v := _) rfl (by kernel_rfl) (by kernel_rfl) (by kernel_rfl) (fun _ _ _ h => h) (Or.inl ⟨by rfl, by (intro wS hSw; (try dsimp only at hSw); go_simp; try with_reducible rfl)⟩) (by assumption) ?_
            (try simp only [Act.put, List.setIfInBounds_toArray, List.set_cons_zero, List.set_cons_succ])
            refine wpAnyH_take (i := 4) (oi := { dst := some 73, op := Op.move (Operand.tmp 9), type := 3, pos := _, after := #[], guard := none }) (v := _) rfl (by kernel_rfl) (by kernel_rfl) (by kernel_rfl) (fun _ _ _ h => h) (Or.inl ⟨by rfl, by (intro wS hSw; (try dsimp only at hSw); go_simp; try with_reducible rfl)⟩) (by assumption) ?_
            (try simp only [Act.put, List.setIfInBounds_toArray, List.set_cons_zero, List.set_cons_succ])
            refine wpAnyH_take (i := 5) (oi := { dst := some 74, op := Op.move (Operand.tmp 12), type := 3, pos := _, after := #[], guard := none }) (v := _) rfl (by kernel_rfl) (by kernel_rfl) (by kernel_rfl) (fun _ _ _ h => h) (Or.inl ⟨by rfl, by (intro wS hSw; (try dsimp only at hSw); go_simp; try with_reducible rfl)⟩) (by assumption) ?_
            (try simp only [Act.put, List.setIfInBounds_toArray, List.set_cons_zero, List.set_cons_succ])
            refine wpAnyH_take (i := 6) (oi := { dst := some 75, op := Op.binOp BinOp.add 3 (Operand.tmp 73) (Operand.tmp 74) 3, type := 3, pos := _, after := #[{ on := 4, ground := Ground.data }, { on := 5, ground := Ground.data }], guard := none }) (v := _) rfl (by kernel_rfl) (by kernel_rfl) (by kernel_rfl) (fun _ _ _ h => h) (Or.inl ⟨by rfl, by (intro wS hSw; (try dsimp only at hSw); go_simp; try with_reducible rfl)⟩) (by assumption) ?_
            (try simp only [Act.put, List.setIfInBounds_toArray, List.set_cons_zero, List.set_cons_succ])
            refine wpAnyH_take (i := 7) (oi := { dst := some 76, op := Op.move (Operand.tmp 8), type := 132, pos := _, after := #[], guard := none }) (v := _) rfl (by kernel_rfl) (by kernel_rfl) (by kernel_rfl) (fun _ _ _ h => h) (Or.inl ⟨by rfl, by (intro wS hSw; (try dsimp only at hSw); go_simp; try with_reducible rfl)⟩) (by assumption) ?_
            (try simp only [Act.put, List.setIfInBounds_toArray, List.set_cons_zero, List.set_cons_succ])
            refine wpAnyH_take (i := 8) (oi := { dst := some 77, op := Op.move (Operand.tmp 12), type := 3, pos := _, after := #[], guard := none }) (v := _) rfl (by kernel_rfl) (by kernel_rfl) (by kernel_rfl) (fun _ _ _ h => h) (Or.inl ⟨by rfl, by (intro wS hSw; (try dsimp only at hSw); go_simp; try with_reducible rfl)⟩) (by assumption) ?_
            (try simp only [Act.put, List.setIfInBounds_toArray, List.set_cons_zero, List.set_cons_succ])
            refine wpAnyH_take (i := 9) (oi := { dst := some 78, op := Op.indexAddr 132 (Operand.tmp 76) (Operand.tmp 77), type := 0, pos := _, after := #[{ on := 7, ground := Ground.data }, { on := 8, ground := Ground.data }], guard := none }) (v := _) rfl (by kernel_rfl) (by kernel_rfl) (by kernel_rfl) (fun _ _ _ h => h) (Or.inl ⟨by rfl, by (intro wS hSw; (try dsimp only at hSw); go_simp; try with_reducible rfl)⟩) (by assumption) ?_
            (try simp only [Act.put, List.setIfInBounds_toArray, List.set_cons_zero, List.set_cons_succ])
            refine wpAnyH_take (i := 10) (oi := { dst := some 79, op := Op.load 82 (Operand.tmp 78), type := 82, pos := _, after := #[{ on := 9, ground := Ground.data }], guard := none }) (v := _) rfl (by kernel_rfl) (by kernel_rfl) (by kernel_rfl) (fun _ _ _ h => h) (Or.inl ⟨by rfl, by (intro wS hSw; (try dsimp only at hSw); go_simp; try with_reducible rfl)⟩) (by assumption) ?_
            (try simp only [Act.put, List.setIfInBounds_toArray, List.set_cons_zero, List.set_cons_succ])
            refine wpAnyH_ready (rs := [11]) (by kernel_rfl) (by simp) ?_
            refine AllReadyH.cons (o := { dst := some 80, op := Op.call { callee := Callee.value (Operand.func 64), args := #[Operand.tmp 72, Operand.tmp 75, Operand.tmp 79], argTypes := #[54, 3, 82] }, type := 27, pos := _, after := #[{ on := 3, ground := Ground.data }, { on := 6, ground := Ground.data }, { on := 10, ground := Ground.data }], guard := none }) rfl (fun K hK => ?_) AllReadyH.nil
            go_simp
            refine (write_m _ g a true D' C' q x (by exact MD.out) (by rw [SV.out.len, HQ.out]; omega) hxb).mono ?_
            rintro e W5 ⟨rfl, C5, hm5, hk5⟩
            have M5 := Lib.hid hm5
            have k5 : Keep wr.heap.size [g, a] wr W5 := hk5.undrew
            have K5 := Lib.hid (KV.out.trans (k5.mono KV.out.size (fun _ _ h => h)))
            have y5 : W5.cell? ⟨v, 0, none⟩ = some (bptr g) ∧ W5.cell? ⟨xb, k, none⟩ = some (.int .u32 (x : Int)) := ⟨(B3.out.keepS K5.out hvg).cell 0, (k5.cell (p := ⟨xb, k, none⟩) hxl (HAn.out xb (by simp [blks]))).trans hxc⟩
            clear hm5 hk5 k5
            refine hK.out _ _ (by exact y5) (fun hHeld => ?_)
            clear hK K
            (try simp only [Act.put, List.setIfInBounds_toArray, List.set_cons_zero, List.set_cons_succ])
            refine wpAnyH_done (by kernel_rfl) ?_ _
            go_wp2_with fail
            go_roundw
            case rel => exact ⟨k + 1, _, C5, by omega, by go_num, by rw [HQ.out]; exact SV.out.more (by rw [HWL.out]; omega) (by omega) (by rw [HWL.out]; exact hkm) HX2.out, M5.out, K5.out⟩
            case measure => simp [intOf] <;> omega
          · have hkmi : ¬ (k : Int) < (m : Int) := by omega
            have hkm2 : k = m := by omega
            obtain ⟨x, hx⟩ : ∃ x, (wordsF G b)[0]? = some x := ⟨_, List.getElem?_eq_getElem (by rw [HWL.out]; omega)⟩
            obtain ⟨xb, rfl, hxl, hxc⟩ : ∃ y, A = some ⟨y, 0, none⟩ ∧ y < wr.heap.size ∧ wr.cell? ⟨y, 0, none⟩ = some (.int .u32 (x : Int)) := by
              obtain ⟨y, h1, h2, h3⟩ := SW.out.cell (j := 0) (by omega)
              exact ⟨y, h1, h2, by rw [h3]; unfold u32s; rw [List.getElem?_map, hx]; rfl⟩
            have hxb : x < 4294967296 := wordsF_lt hG2 HO.out hbl hx
            have hm1 : 0 < m := by omega
            have HX2 := Lib.hid hx
            have HKM := Lib.hid hkm2
            clear hx hkm2
            go_wp2_with fail
            have y0d : wr.drew.cell? ⟨v, 0, none⟩ = some (bptr g) ∧ wr.drew.cell? ⟨xb, 0, none⟩ = some (.int .u32 (x : Int)) := ⟨y0, hxc⟩
            have MD := Lib.hid MM.out.drew1
            refine wp_region_held_drew (S := (fun w' => w'.cell? ⟨v, 0, none⟩ = some (bptr g) ∧ w'.cell? ⟨xb, 0, none⟩ = some (.int .u32 (x : Int)))) (by kernel_rfl) (by exact y0d) (fun hHeld => ?_)
            refine wpAnyH_take (i := 0) (oi := { dst := some 46, op := Op.move (Operand.tmp 0), type := 56, pos := _, after := #[], guard := none }) (v := _) rfl (by kernel_rfl) (by kernel_rfl) (by kernel_rfl) (fun _ _ _ h => h) (Or.inl ⟨by rfl, by (intro wS hSw; (try dsimp only at hSw); go_simp; try with_reducible rfl)⟩) (by assumption) ?_
            (try simp only [Act.put, List.setIfInBounds_toArray, List.set_cons_zero, List.set_cons_succ])
            refine wpAnyH_take (i := 1) (oi := { dst := some 47, op := Op.nilCheck (Operand.tmp 46), type := 0, pos := _, after := #[{ on := 0, ground := Ground.data }], guard := none }) (v := _) rfl (by kernel_rfl) (by kernel_rfl) (by kernel_rfl) (fun _ _ _ h => h) (Or.inl ⟨by rfl, by (intro wS hSw; (try dsimp only at hSw); go_simp; try with_reducible rfl)⟩) (by assumption) ?_
            (try simp only [Act.put, List.setIfInBounds_toArray, List.set_cons_zero, List.set_cons_succ])
            refine wpAnyH_take (i := 2) (oi := { dst := some 48, op := Op.fieldAddr 131 (Operand.tmp 47) 0, type := 0, pos := _, after := #[{ on := 1, ground := Ground.data }], guard := none }) (v := _) rfl (by kernel_rfl) (by kernel_rfl) (by kernel_rfl) (fun _ _ _ h => h) (Or.inl ⟨by rfl, by (intro wS hSw; (try dsimp only at hSw); go_simp; try with_reducible rfl)⟩) (by assumption) ?_
            (try simp only [Act.put, List.setIfInBounds_toArray, List.set_cons_zero, List.set_cons_succ])
            refine wpAnyH_take (i := 3) (oi := { dst := some 49, op := Op.load 54 (Operand.tmp 48), type := 54, pos := _, after := #[{ on := 2, ground := Ground.data }], guard := none }) (v := _) rfl (by kernel_rfl) (by kernel_rfl) (by kernel_rfl) (fun _ _ _ h => h) (Or.inl ⟨by rfl, by (intro wS hSw; (try dsimp only at hSw); go_simp; try with_reducible rfl)⟩) (by assumption) ?_
            (try simp only [Act.put, List.setIfInBounds_toArray, List.set_cons_zero, List.set_cons_succ])
            refine wpAnyH_take (i := 4) (oi := { dst := some 50, op := Op.move (Operand.tmp 9), type := 3, pos := _, after := #[], guard := none }) (v := _) rfl (by kernel_rfl) (by kernel_rfl) (by kernel_rfl) (fun _ _ _ h => h) (Or.inl ⟨by rfl, by (intro wS hSw; (try dsimp only at hSw); go_simp; try with_reducible rfl)⟩) (by assumption) ?_
            (try simp only [Act.put, List.setIfInBounds_toArray, List.set_cons_zero, List.set_cons_succ])
            refine wpAnyH_take (i := 5) (oi := { dst := some 51, op := Op.move (Operand.tmp 8), type := 132, pos := _, after := #[], guard := none }) (v := _) rfl (by kernel_rfl) (by kernel_rfl) (by kernel_rfl) (fun _ _ _ h => h) (Or.inl ⟨by rfl, by (intro wS hSw; (try dsimp only at hSw); go_simp; try with_reducible rfl)⟩) (by assumption) ?_
            (try simp only [Act.put, List.setIfInBounds_toArray, List.set_cons_zero, List.set_cons_succ])
            refine wpAnyH_take (i := 6) (oi := { dst := some 52, op := Op.indexAddr 132 (Operand.tmp 51) (Operand.const (Value.int IntKind.i64 0)), type := 0, pos := _, after := #[{ on := 5, ground := Ground.data }], guard := none }) (v := _) rfl (by kernel_rfl) (by kernel_rfl) (by kernel_rfl) (fun _ _ _ h => h) (Or.inl ⟨by rfl, by (intro wS hSw; (try dsimp only at hSw); go_simp; try with_reducible rfl)⟩) (by assumption) ?_
            (try simp only [Act.put, List.setIfInBounds_toArray, List.set_cons_zero, List.set_cons_succ])
            refine wpAnyH_take (i := 7) (oi := { dst := some 53, op := Op.load 82 (Operand.tmp 52), type := 82, pos := _, after := #[{ on := 6, ground := Ground.data }], guard := none }) (v := _) rfl (by kernel_rfl) (by kernel_rfl) (by kernel_rfl) (fun _ _ _ h => h) (Or.inl ⟨by rfl, by (intro wS hSw; (try dsimp only at hSw); go_simp; try with_reducible rfl)⟩) (by assumption) ?_
            (try simp only [Act.put, List.setIfInBounds_toArray, List.set_cons_zero, List.set_cons_succ])
            refine wpAnyH_ready (rs := [8]) (by kernel_rfl) (by simp) ?_
            refine AllReadyH.cons (o := { dst := some 54, op := Op.call { callee := Callee.value (Operand.func 64), args := #[Operand.tmp 49, Operand.tmp 50, Operand.tmp 53], argTypes := #[54, 3, 82] }, type := 27, pos := _, after := #[{ on := 3, ground := Ground.data }, { on := 4, ground := Ground.data }, { on := 7, ground := Ground.data }], guard := none }) rfl (fun K hK => ?_) AllReadyH.nil
            go_simp
            refine (write_m _ g a true D' C' J x (by exact MD.out) (by rw [SV.out.len]; omega) hxb).mono ?_
            rintro e W5 ⟨rfl, C5, hm5, hk5⟩
            have M5 := Lib.hid hm5
            have k5 : Keep wr.heap.size [g, a] wr W5 := hk5.undrew
            have K5 := Lib.hid (KV.out.trans (k5.mono KV.out.size (fun _ _ h => h)))
            have y5 : W5.cell? ⟨v, 0, none⟩ = some (bptr g) ∧ W5.cell? ⟨xb, 0, none⟩ = some (.int .u32 (x : Int)) := ⟨(B3.out.keepS K5.out hvg).cell 0, (k5.cell (p := ⟨xb, 0, none⟩) hxl (HAn.out xb (by simp [blks]))).trans hxc⟩
            clear hm5 hk5 k5
            refine hK.out _ _ (by exact y5) (fun hHeld => ?_)
            clear hK K
            (try simp only [Act.put, List.setIfInBounds_toArray, List.set_cons_zero, List.set_cons_succ])
            refine wpAnyH_done (by kernel_rfl) ?_ _
            go_wp2_with fail
            go_roundw
            case rel => exact ⟨k + 1, _, C5, by omega, by go_num, by
              have h1 := SV.out
              rw [show k = (wordsF G b).length by rw [HWL.out]; exact HKM.out] at h1 ⊢
              exact h1.last (by rw [HWL.out]; omega) (by rw [HWL.out]; omega) HX2.out, M5.out, K5.out⟩
            case measure => simp [intOf] <;> omega
      · obtain rfl : dn = k := by omega
        have hlen : D'.length = 400 := by rw [SV.out.len]; exact hl
        have hh1 : Holds D' i (if dn = nw b + 4 then some (G, b) else none) := Holds.made SV.out HJ.out ⟨by have := HG.out; omega, hG2⟩ HO.out hbl (by have := HM.out; have := HN.out; omega)
        have hh2 : Holds D' (1 - i) o := Holds.out SV.out (by have := HJ.out; rw [HJ.out]; congr 1; omega) (by omega) (by rw [HWL.out]; omega) HOO.out
        have HH1 := Lib.hid hh1
        have HH2 := Lib.hid hh2
        clear hh1 hh2
        have hf4 : dn = nw b + 4 := by have := HM.out; have := HN.out; omega
        have HF := Lib.hid hf4
        clear hf4
        have hfi : ¬ (dn : Int) < (dn : Int) := by omega
        go_wp2_with fail
        go_ret
        refine ⟨true, D', C', rfl, fun _ => rfl, hlen, ?_, HH2.out, MM.out, KW.out⟩
        have h := HH1.out
        rw [if_pos HF.out] at h
        exact h
  · obtain ⟨dn, hdn⟩ : ∃ dn, dn = N := ⟨_, rfl⟩
    have HDN : Hid (z < 0 → dn = dn) := Lib.hid (fun _ => rfl)
    have hdle : dn ≤ dn := Nat.le_refl _
    subst hdn
    go_wp2_with fail
    go_loopw [43] (fun ii wr => ∃ (k : Nat) (D' C' : List Nat), k ≤ dn ∧ ii = .int .i64 k ∧ SvD D J (wordsF G b) k D' ∧ MemC wr g a true D' C' ∧ Keep W3.heap.size [g, a] W3 wr) (fun ii _ => dn - (intOf ii).toNat)
    case atStart => exact ⟨0, D, C3, by omega, rfl, SvD.zero HZJ.out, M3.out, Keep.refl _ _ _⟩
    case round =>
      obtain ⟨k, D', C', hk, rfl, hsv, hm, hkw⟩ := hrel
      have SV := Lib.hid hsv
      have MM := Lib.hid hm
      have KV := Lib.hid hkw
      have KW := Lib.hid (K3.out.trans (KV.out.mono K3.out.size (fun _ _ h => h)))
      have BB := Lib.hid (HB.out.keepS KW.out hvg)
      have y0 : wr.cell? ⟨v, 0, none⟩ = some (bptr g) := BB.out.cell 0
      have SW := Lib.hid (S3.out.keepS KV.out HAn.out)
      clear hsv hm hkw
      by_cases hlt : k < dn
      · have hki : (k : Int) < (dn : Int) := by omega
        by_cases hk0 : k = 0
        · subst hk0
          rw [show ((0 : Nat) : Int) = 0 from rfl] at hki ⊢
          go_wp2_with fail
          refine (write_m _ g a true D' C' J 0 MM.out (by rw [SV.out.len]; omega) (by omega)).mono ?_
          rintro e W5 ⟨rfl, C5, hm5, hk5⟩
          have M5 := Lib.hid hm5
          have K5 := Lib.hid (KV.out.trans (hk5.mono KV.out.size (fun _ _ h => h)))
          clear hm5 hk5
          go_wp2_with fail
          go_roundw
          case rel => exact ⟨1, _, C5, by omega, rfl, SV.out.one (by rw [HWL.out]; omega) (by rw [HWL.out]; omega), M5.out, K5.out⟩
          case measure => simp [intOf] <;> omega
        · have hk0i : ¬ (k : Int) = 0 := by omega
          have hk0b : ((k : Int) == 0) = false := by rw [beq_eq_false_iff_ne]; exact hk0i
          by_cases hkm : k < m
          · have hkmi : (k : Int) < (m : Int) := by omega
            obtain ⟨q, hq⟩ : ∃ q, q = J + k := ⟨_, rfl⟩
            have e6 : (J : Int) + (k : Int) = (q : Int) := by omega
            have ew6 : IntKind.i64.wrap (q : Int) = (q : Int) := i64w' q (by omega)
            obtain ⟨x, hx⟩ : ∃ x, (wordsF G b)[k]? = some x := ⟨_, List.getElem?_eq_getElem (by rw [HWL.out]; exact hkm)⟩
            obtain ⟨xb, rfl, hxl, hxc⟩ : ∃ y, A = some ⟨y, 0, none⟩ ∧ y < wr.heap.size ∧ wr.cell? ⟨y, k, none⟩ = some (.int .u32 (x : Int)) := by
              obtain ⟨y, h1, h2, h3⟩ := SW.out.cell (j := k) (by omega)
              exact ⟨y, h1, h2, by rw [h3]; unfold u32s; rw [List.getElem?_map, hx]; rfl⟩
            have hxb : x < 4294967296 := wordsF_lt hG2 HO.out hbl hx
            have HX2 := Lib.hid hx
            have HQ := Lib.hid hq
            clear hx hq
            go_wp2_with fail
            have y0d : wr.drew.cell? ⟨v, 0, none⟩ = some (bptr g) ∧ wr.drew.cell? ⟨xb, k, none⟩ = some (.int .u32 (x : Int)) := ⟨y0, hxc⟩
            have MD := Lib.hid MM.out.drew1
            refine wp_region_held_drew (S := (fun w' => w'.cell? ⟨v, 0, none⟩ = some (bptr g) ∧ w'.cell? ⟨xb, k, none⟩ = some (.int .u32 (x : Int)))) (by kernel_rfl) (by exact y0d) (fun hHeld => ?_)
            refine wpAnyH_take (i := 0) (oi := { dst := some 69, op := Op.move (Operand.tmp 0), type := 56, pos := _, after := #[], guard := none }) (v := _) rfl (by kernel_rfl) (by kernel_rfl) (by kernel_rfl) (fun _ _ _ h => h) (Or.inl ⟨by rfl, by (intro wS hSw; (try dsimp only at hSw); go_simp; try with_reducible rfl)⟩) (by assumption) ?_
            (try simp only [Act.put, List.setIfInBounds_toArray, List.set_cons_zero, List.set_cons_succ])
            refine wpAnyH_take (i := 1) (oi := { dst := some 70, op := Op.nilCheck (Operand.tmp 69), type := 0, pos := _, after := #[{ on := 0, ground := Ground.data }], guard := none }) (v := _) rfl (by kernel_rfl) (by kernel_rfl) (by kernel_rfl) (fun _ _ _ h => h) (Or.inl ⟨by rfl, by (intro wS hSw; (try dsimp only at hSw); go_simp; try with_reducible rfl)⟩) (by assumption) ?_
            (try simp only [Act.put, List.setIfInBounds_toArray, List.set_cons_zero, List.set_cons_succ])
            refine wpAnyH_take (i := 2) (oi := { dst := some 71, op := Op.fieldAddr 131 (Operand.tmp 70) 0, type := 0, pos := _, after := #[{ on := 1, ground := Ground.data }], guard := none }) (v := _) rfl (by kernel_rfl) (by kernel_rfl) (by kernel_rfl) (fun _ _ _ h => h) (Or.inl ⟨by rfl, by (intro wS hSw; (try dsimp only at hSw); go_simp; try with_reducible rfl)⟩) (by assumption) ?_
            (try simp only [Act.put, List.setIfInBounds_toArray, List.set_cons_zero, List.set_cons_succ])
            refine wpAnyH_take (i := 3) (oi := { dst := some 72, op := Op.load 54 (Operand.tmp 71), type := 54, pos := _, after := #[{ on := 2, ground := Ground.data }], guard := none }) (v := _) rfl (by kernel_rfl) (by kernel_rfl) (by kernel_rfl) (fun _ _ _ h => h) (Or.inl ⟨by rfl, by (intro wS hSw; (try dsimp only at hSw); go_simp; try with_reducible rfl)⟩) (by assumption) ?_
            (try simp only [Act.put, List.setIfInBounds_toArray, List.set_cons_zero, List.set_cons_succ])
            refine wpAnyH_take (i := 4) (oi := { dst := some 73, op := Op.move (Operand.tmp 9), type := 3, pos := _, after := #[], guard := none }) (v := _) rfl (by kernel_rfl) (by kernel_rfl) (by kernel_rfl) (fun _ _ _ h => h) (Or.inl ⟨by rfl, by (intro wS hSw; (try dsimp only at hSw); go_simp; try with_reducible rfl)⟩) (by assumption) ?_
            (try simp only [Act.put, List.setIfInBounds_toArray, List.set_cons_zero, List.set_cons_succ])
            refine wpAnyH_take (i := 5) (oi := { dst := some 74, op := Op.move (Operand.tmp 12), type := 3, pos := _, after := #[], guard := none }) (v := _) rfl (by kernel_rfl) (by kernel_rfl) (by kernel_rfl) (fun _ _ _ h => h) (Or.inl ⟨by rfl, by (intro wS hSw; (try dsimp only at hSw); go_simp; try with_reducible rfl)⟩) (by assumption) ?_
            (try simp only [Act.put, List.setIfInBounds_toArray, List.set_cons_zero, List.set_cons_succ])
            refine wpAnyH_take (i := 6) (oi := { dst := some 75, op := Op.binOp BinOp.add 3 (Operand.tmp 73) (Operand.tmp 74) 3, type := 3, pos := _, after := #[{ on := 4, ground := Ground.data }, { on := 5, ground := Ground.data }], guard := none }) (v := _) rfl (by kernel_rfl) (by kernel_rfl) (by kernel_rfl) (fun _ _ _ h => h) (Or.inl ⟨by rfl, by (intro wS hSw; (try dsimp only at hSw); go_simp; try with_reducible rfl)⟩) (by assumption) ?_
            (try simp only [Act.put, List.setIfInBounds_toArray, List.set_cons_zero, List.set_cons_succ])
            refine wpAnyH_take (i := 7) (oi := { dst := some 76, op := Op.move (Operand.tmp 8), type := 132, pos := _, after := #[], guard := none }) (v := _) rfl (by kernel_rfl) (by kernel_rfl) (by kernel_rfl) (fun _ _ _ h => h) (Or.inl ⟨by rfl, by (intro wS hSw; (try dsimp only at hSw); go_simp; try with_reducible rfl)⟩) (by assumption) ?_
            (try simp only [Act.put, List.setIfInBounds_toArray, List.set_cons_zero, List.set_cons_succ])
            refine wpAnyH_take (i := 8) (oi := { dst := some 77, op := Op.move (Operand.tmp 12), type := 3, pos := _, after := #[], guard := none }) (v := _) rfl (by kernel_rfl) (by kernel_rfl) (by kernel_rfl) (fun _ _ _ h => h) (Or.inl ⟨by rfl, by (intro wS hSw; (try dsimp only at hSw); go_simp; try with_reducible rfl)⟩) (by assumption) ?_
            (try simp only [Act.put, List.setIfInBounds_toArray, List.set_cons_zero, List.set_cons_succ])
            refine wpAnyH_take (i := 9) (oi := { dst := some 78, op := Op.indexAddr 132 (Operand.tmp 76) (Operand.tmp 77), type := 0, pos := _, after := #[{ on := 7, ground := Ground.data }, { on := 8, ground := Ground.data }], guard := none }) (v := _) rfl (by kernel_rfl) (by kernel_rfl) (by kernel_rfl) (fun _ _ _ h => h) (Or.inl ⟨by rfl, by (intro wS hSw; (try dsimp only at hSw); go_simp; try with_reducible rfl)⟩) (by assumption) ?_
            (try simp only [Act.put, List.setIfInBounds_toArray, List.set_cons_zero, List.set_cons_succ])
            refine wpAnyH_take (i := 10) (oi := { dst := some 79, op := Op.load 82 (Operand.tmp 78), type := 82, pos := _, after := #[{ on := 9, ground := Ground.data }], guard := none }) (v := _) rfl (by kernel_rfl) (by kernel_rfl) (by kernel_rfl) (fun _ _ _ h => h) (Or.inl ⟨by rfl, by (intro wS hSw; (try dsimp only at hSw); go_simp; try with_reducible rfl)⟩) (by assumption) ?_
            (try simp only [Act.put, List.setIfInBounds_toArray, List.set_cons_zero, List.set_cons_succ])
            refine wpAnyH_ready (rs := [11]) (by kernel_rfl) (by simp) ?_
            refine AllReadyH.cons (o := { dst := some 80, op := Op.call { callee := Callee.value (Operand.func 64), args := #[Operand.tmp 72, Operand.tmp 75, Operand.tmp 79], argTypes := #[54, 3, 82] }, type := 27, pos := _, after := #[{ on := 3, ground := Ground.data }, { on := 6, ground := Ground.data }, { on := 10, ground := Ground.data }], guard := none }) rfl (fun K hK => ?_) AllReadyH.nil
            go_simp
            refine (write_m _ g a true D' C' q x (by exact MD.out) (by rw [SV.out.len, HQ.out]; omega) hxb).mono ?_
            rintro e W5 ⟨rfl, C5, hm5, hk5⟩
            have M5 := Lib.hid hm5
            have k5 : Keep wr.heap.size [g, a] wr W5 := hk5.undrew
            have K5 := Lib.hid (KV.out.trans (k5.mono KV.out.size (fun _ _ h => h)))
            have y5 : W5.cell? ⟨v, 0, none⟩ = some (bptr g) ∧ W5.cell? ⟨xb, k, none⟩ = some (.int .u32 (x : Int)) := ⟨(B3.out.keepS K5.out hvg).cell 0, (k5.cell (p := ⟨xb, k, none⟩) hxl (HAn.out xb (by simp [blks]))).trans hxc⟩
            clear hm5 hk5 k5
            refine hK.out _ _ (by exact y5) (fun hHeld => ?_)
            clear hK K
            (try simp only [Act.put, List.setIfInBounds_toArray, List.set_cons_zero, List.set_cons_succ])
            refine wpAnyH_done (by kernel_rfl) ?_ _
            go_wp2_with fail
            go_roundw
            case rel => exact ⟨k + 1, _, C5, by omega, by go_num, by rw [HQ.out]; exact SV.out.more (by rw [HWL.out]; omega) (by omega) (by rw [HWL.out]; exact hkm) HX2.out, M5.out, K5.out⟩
            case measure => simp [intOf] <;> omega
          · have hkmi : ¬ (k : Int) < (m : Int) := by omega
            have hkm2 : k = m := by omega
            obtain ⟨x, hx⟩ : ∃ x, (wordsF G b)[0]? = some x := ⟨_, List.getElem?_eq_getElem (by rw [HWL.out]; omega)⟩
            obtain ⟨xb, rfl, hxl, hxc⟩ : ∃ y, A = some ⟨y, 0, none⟩ ∧ y < wr.heap.size ∧ wr.cell? ⟨y, 0, none⟩ = some (.int .u32 (x : Int)) := by
              obtain ⟨y, h1, h2, h3⟩ := SW.out.cell (j := 0) (by omega)
              exact ⟨y, h1, h2, by rw [h3]; unfold u32s; rw [List.getElem?_map, hx]; rfl⟩
            have hxb : x < 4294967296 := wordsF_lt hG2 HO.out hbl hx
            have hm1 : 0 < m := by omega
            have HX2 := Lib.hid hx
            have HKM := Lib.hid hkm2
            clear hx hkm2
            go_wp2_with fail
            have y0d : wr.drew.cell? ⟨v, 0, none⟩ = some (bptr g) ∧ wr.drew.cell? ⟨xb, 0, none⟩ = some (.int .u32 (x : Int)) := ⟨y0, hxc⟩
            have MD := Lib.hid MM.out.drew1
            refine wp_region_held_drew (S := (fun w' => w'.cell? ⟨v, 0, none⟩ = some (bptr g) ∧ w'.cell? ⟨xb, 0, none⟩ = some (.int .u32 (x : Int)))) (by kernel_rfl) (by exact y0d) (fun hHeld => ?_)
            refine wpAnyH_take (i := 0) (oi := { dst := some 46, op := Op.move (Operand.tmp 0), type := 56, pos := _, after := #[], guard := none }) (v := _) rfl (by kernel_rfl) (by kernel_rfl) (by kernel_rfl) (fun _ _ _ h => h) (Or.inl ⟨by rfl, by (intro wS hSw; (try dsimp only at hSw); go_simp; try with_reducible rfl)⟩) (by assumption) ?_
            (try simp only [Act.put, List.setIfInBounds_toArray, List.set_cons_zero, List.set_cons_succ])
            refine wpAnyH_take (i := 1) (oi := { dst := some 47, op := Op.nilCheck (Operand.tmp 46), type := 0, pos := _, after := #[{ on := 0, ground := Ground.data }], guard := none }) (v := _) rfl (by kernel_rfl) (by kernel_rfl) (by kernel_rfl) (fun _ _ _ h => h) (Or.inl ⟨by rfl, by (intro wS hSw; (try dsimp only at hSw); go_simp; try with_reducible rfl)⟩) (by assumption) ?_
            (try simp only [Act.put, List.setIfInBounds_toArray, List.set_cons_zero, List.set_cons_succ])
            refine wpAnyH_take (i := 2) (oi := { dst := some 48, op := Op.fieldAddr 131 (Operand.tmp 47) 0, type := 0, pos := _, after := #[{ on := 1, ground := Ground.data }], guard := none }) (v := _) rfl (by kernel_rfl) (by kernel_rfl) (by kernel_rfl) (fun _ _ _ h => h) (Or.inl ⟨by rfl, by (intro wS hSw; (try dsimp only at hSw); go_simp; try with_reducible rfl)⟩) (by assumption) ?_
            (try simp only [Act.put, List.setIfInBounds_toArray, List.set_cons_zero, List.set_cons_succ])
            refine wpAnyH_take (i := 3) (oi := { dst := some 49, op := Op.load 54 (Operand.tmp 48), type := 54, pos := _, after := #[{ on := 2, ground := Ground.data }], guard := none }) (v := _) rfl (by kernel_rfl) (by kernel_rfl) (by kernel_rfl) (fun _ _ _ h => h) (Or.inl ⟨by rfl, by (intro wS hSw; (try dsimp only at hSw); go_simp; try with_reducible rfl)⟩) (by assumption) ?_
            (try simp only [Act.put, List.setIfInBounds_toArray, List.set_cons_zero, List.set_cons_succ])
            refine wpAnyH_take (i := 4) (oi := { dst := some 50, op := Op.move (Operand.tmp 9), type := 3, pos := _, after := #[], guard := none }) (v := _) rfl (by kernel_rfl) (by kernel_rfl) (by kernel_rfl) (fun _ _ _ h => h) (Or.inl ⟨by rfl, by (intro wS hSw; (try dsimp only at hSw); go_simp; try with_reducible rfl)⟩) (by assumption) ?_
            (try simp only [Act.put, List.setIfInBounds_toArray, List.set_cons_zero, List.set_cons_succ])
            refine wpAnyH_take (i := 5) (oi := { dst := some 51, op := Op.move (Operand.tmp 8), type := 132, pos := _, after := #[], guard := none }) (v := _) rfl (by kernel_rfl) (by kernel_rfl) (by kernel_rfl) (fun _ _ _ h => h) (Or.inl ⟨by rfl, by (intro wS hSw; (try dsimp only at hSw); go_simp; try with_reducible rfl)⟩) (by assumption) ?_
            (try simp only [Act.put, List.setIfInBounds_toArray, List.set_cons_zero, List.set_cons_succ])
            refine wpAnyH_take (i := 6) (oi := { dst := some 52, op := Op.indexAddr 132 (Operand.tmp 51) (Operand.const (Value.int IntKind.i64 0)), type := 0, pos := _, after := #[{ on := 5, ground := Ground.data }], guard := none }) (v := _) rfl (by kernel_rfl) (by kernel_rfl) (by kernel_rfl) (fun _ _ _ h => h) (Or.inl ⟨by rfl, by (intro wS hSw; (try dsimp only at hSw); go_simp; try with_reducible rfl)⟩) (by assumption) ?_
            (try simp only [Act.put, List.setIfInBounds_toArray, List.set_cons_zero, List.set_cons_succ])
            refine wpAnyH_take (i := 7) (oi := { dst := some 53, op := Op.load 82 (Operand.tmp 52), type := 82, pos := _, after := #[{ on := 6, ground := Ground.data }], guard := none }) (v := _) rfl (by kernel_rfl) (by kernel_rfl) (by kernel_rfl) (fun _ _ _ h => h) (Or.inl ⟨by rfl, by (intro wS hSw; (try dsimp only at hSw); go_simp; try with_reducible rfl)⟩) (by assumption) ?_
            (try simp only [Act.put, List.setIfInBounds_toArray, List.set_cons_zero, List.set_cons_succ])
            refine wpAnyH_ready (rs := [8]) (by kernel_rfl) (by simp) ?_
            refine AllReadyH.cons (o := { dst := some 54, op := Op.call { callee := Callee.value (Operand.func 64), args := #[Operand.tmp 49, Operand.tmp 50, Operand.tmp 53], argTypes := #[54, 3, 82] }, type := 27, pos := _, after := #[{ on := 3, ground := Ground.data }, { on := 4, ground := Ground.data }, { on := 7, ground := Ground.data }], guard := none }) rfl (fun K hK => ?_) AllReadyH.nil
            go_simp
            refine (write_m _ g a true D' C' J x (by exact MD.out) (by rw [SV.out.len]; omega) hxb).mono ?_
            rintro e W5 ⟨rfl, C5, hm5, hk5⟩
            have M5 := Lib.hid hm5
            have k5 : Keep wr.heap.size [g, a] wr W5 := hk5.undrew
            have K5 := Lib.hid (KV.out.trans (k5.mono KV.out.size (fun _ _ h => h)))
            have y5 : W5.cell? ⟨v, 0, none⟩ = some (bptr g) ∧ W5.cell? ⟨xb, 0, none⟩ = some (.int .u32 (x : Int)) := ⟨(B3.out.keepS K5.out hvg).cell 0, (k5.cell (p := ⟨xb, 0, none⟩) hxl (HAn.out xb (by simp [blks]))).trans hxc⟩
            clear hm5 hk5 k5
            refine hK.out _ _ (by exact y5) (fun hHeld => ?_)
            clear hK K
            (try simp only [Act.put, List.setIfInBounds_toArray, List.set_cons_zero, List.set_cons_succ])
            refine wpAnyH_done (by kernel_rfl) ?_ _
            go_wp2_with fail
            go_roundw
            case rel => exact ⟨k + 1, _, C5, by omega, by go_num, by
              have h1 := SV.out
              rw [show k = (wordsF G b).length by rw [HWL.out]; exact HKM.out] at h1 ⊢
              exact h1.last (by rw [HWL.out]; omega) (by rw [HWL.out]; omega) HX2.out, M5.out, K5.out⟩
            case measure => simp [intOf] <;> omega
      · obtain rfl : dn = k := by omega
        have hlen : D'.length = 400 := by rw [SV.out.len]; exact hl
        have hh1 : Holds D' i (if dn = nw b + 4 then some (G, b) else none) := Holds.made SV.out HJ.out ⟨by have := HG.out; omega, hG2⟩ HO.out hbl (by have := HM.out; have := HN.out; omega)
        have hh2 : Holds D' (1 - i) o := Holds.out SV.out (by have := HJ.out; rw [HJ.out]; congr 1; omega) (by omega) (by rw [HWL.out]; omega) HOO.out
        have HH1 := Lib.hid hh1
        have HH2 := Lib.hid hh2
        clear hh1 hh2
        have hf4 : dn = nw b + 4 := by have := HM.out; have := HN.out; omega
        have HF := Lib.hid hf4
        clear hf4
        have hfi : ¬ (dn : Int) < (dn : Int) := by omega
        go_wp2_with fail
        go_ret
        refine ⟨true, D', C', rfl, fun _ => rfl, hlen, ?_, HH2.out, MM.out, KW.out⟩
        have h := HH1.out
        rw [if_pos HF.out] at h
        exact h
  · obtain ⟨dn, rfl⟩ := Int.eq_ofNat_of_zero_le hz0
    have HDN : Hid ((dn : Int) < 0 → dn = N) := Lib.hid (fun h => by omega)
    have hdle : dn ≤ N := by omega
    go_wp2_with fail
    go_loopw [43] (fun ii wr => ∃ (k : Nat) (D' C' : List Nat), k ≤ dn ∧ ii = .int .i64 k ∧ SvD D J (wordsF G b) k D' ∧ MemC wr g a true D' C' ∧ Keep W3.heap.size [g, a] W3 wr) (fun ii _ => dn - (intOf ii).toNat)
    case atStart => exact ⟨0, D, C3, by omega, rfl, SvD.zero HZJ.out, M3.out, Keep.refl _ _ _⟩
    case round =>
      obtain ⟨k, D', C', hk, rfl, hsv, hm, hkw⟩ := hrel
      have SV := Lib.hid hsv
      have MM := Lib.hid hm
      have KV := Lib.hid hkw
      have KW := Lib.hid (K3.out.trans (KV.out.mono K3.out.size (fun _ _ h => h)))
      have BB := Lib.hid (HB.out.keepS KW.out hvg)
      have y0 : wr.cell? ⟨v, 0, none⟩ = some (bptr g) := BB.out.cell 0
      have SW := Lib.hid (S3.out.keepS KV.out HAn.out)
      clear hsv hm hkw
      by_cases hlt : k < dn
      · have hki : (k : Int) < (dn : Int) := by omega
        by_cases hk0 : k = 0
        · subst hk0
          rw [show ((0 : Nat) : Int) = 0 from rfl] at hki ⊢
          go_wp2_with fail
          refine (write_m _ g a true D' C' J 0 MM.out (by rw [SV.out.len]; omega) (by omega)).mono ?_
          rintro e W5 ⟨rfl, C5, hm5, hk5⟩
          have M5 := Lib.hid hm5
          have K5 := Lib.hid (KV.out.trans (hk5.mono KV.out.size (fun _ _ h => h)))
          clear hm5 hk5
          go_wp2_with fail
          go_roundw
          case rel => exact ⟨1, _, C5, by omega, rfl, SV.out.one (by rw [HWL.out]; omega) (by rw [HWL.out]; omega), M5.out, K5.out⟩
          case measure => simp [intOf] <;> omega
        · have hk0i : ¬ (k : Int) = 0 := by omega
          have hk0b : ((k : Int) == 0) = false := by rw [beq_eq_false_iff_ne]; exact hk0i
          by_cases hkm : k < m
          · have hkmi : (k : Int) < (m : Int) := by omega
            obtain ⟨q, hq⟩ : ∃ q, q = J + k := ⟨_, rfl⟩
            have e6 : (J : Int) + (k : Int) = (q : Int) := by omega
            have ew6 : IntKind.i64.wrap (q : Int) = (q : Int) := i64w' q (by omega)
            obtain ⟨x, hx⟩ : ∃ x, (wordsF G b)[k]? = some x := ⟨_, List.getElem?_eq_getElem (by rw [HWL.out]; exact hkm)⟩
            obtain ⟨xb, rfl, hxl, hxc⟩ : ∃ y, A = some ⟨y, 0, none⟩ ∧ y < wr.heap.size ∧ wr.cell? ⟨y, k, none⟩ = some (.int .u32 (x : Int)) := by
              obtain ⟨y, h1, h2, h3⟩ := SW.out.cell (j := k) (by omega)
              exact ⟨y, h1, h2, by rw [h3]; unfold u32s; rw [List.getElem?_map, hx]; rfl⟩
            have hxb : x < 4294967296 := wordsF_lt hG2 HO.out hbl hx
            have HX2 := Lib.hid hx
            have HQ := Lib.hid hq
            clear hx hq
            go_wp2_with fail
            have y0d : wr.drew.cell? ⟨v, 0, none⟩ = some (bptr g) ∧ wr.drew.cell? ⟨xb, k, none⟩ = some (.int .u32 (x : Int)) := ⟨y0, hxc⟩
            have MD := Lib.hid MM.out.drew1
            refine wp_region_held_drew (S := (fun w' => w'.cell? ⟨v, 0, none⟩ = some (bptr g) ∧ w'.cell? ⟨xb, k, none⟩ = some (.int .u32 (x : Int)))) (by kernel_rfl) (by exact y0d) (fun hHeld => ?_)
            refine wpAnyH_take (i := 0) (oi := { dst := some 69, op := Op.move (Operand.tmp 0), type := 56, pos := _, after := #[], guard := none }) (v := _) rfl (by kernel_rfl) (by kernel_rfl) (by kernel_rfl) (fun _ _ _ h => h) (Or.inl ⟨by rfl, by (intro wS hSw; (try dsimp only at hSw); go_simp; try with_reducible rfl)⟩) (by assumption) ?_
            (try simp only [Act.put, List.setIfInBounds_toArray, List.set_cons_zero, List.set_cons_succ])
            refine wpAnyH_take (i := 1) (oi := { dst := some 70, op := Op.nilCheck (Operand.tmp 69), type := 0, pos := _, after := #[{ on := 0, ground := Ground.data }], guard := none }) (v := _) rfl (by kernel_rfl) (by kernel_rfl) (by kernel_rfl) (fun _ _ _ h => h) (Or.inl ⟨by rfl, by (intro wS hSw; (try dsimp only at hSw); go_simp; try with_reducible rfl)⟩) (by assumption) ?_
            (try simp only [Act.put, List.setIfInBounds_toArray, List.set_cons_zero, List.set_cons_succ])
            refine wpAnyH_take (i := 2) (oi := { dst := some 71, op := Op.fieldAddr 131 (Operand.tmp 70) 0, type := 0, pos := _, after := #[{ on := 1, ground := Ground.data }], guard := none }) (v := _) rfl (by kernel_rfl) (by kernel_rfl) (by kernel_rfl) (fun _ _ _ h => h) (Or.inl ⟨by rfl, by (intro wS hSw; (try dsimp only at hSw); go_simp; try with_reducible rfl)⟩) (by assumption) ?_
            (try simp only [Act.put, List.setIfInBounds_toArray, List.set_cons_zero, List.set_cons_succ])
            refine wpAnyH_take (i := 3) (oi := { dst := some 72, op := Op.load 54 (Operand.tmp 71), type := 54, pos := _, after := #[{ on := 2, ground := Ground.data }], guard := none }) (v := _) rfl (by kernel_rfl) (by kernel_rfl) (by kernel_rfl) (fun _ _ _ h => h) (Or.inl ⟨by rfl, by (intro wS hSw; (try dsimp only at hSw); go_simp; try with_reducible rfl)⟩) (by assumption) ?_
            (try simp only [Act.put, List.setIfInBounds_toArray, List.set_cons_zero, List.set_cons_succ])
            refine wpAnyH_take (i := 4) (oi := { dst := some 73, op := Op.move (Operand.tmp 9), type := 3, pos := _, after := #[], guard := none }) (v := _) rfl (by kernel_rfl) (by kernel_rfl) (by kernel_rfl) (fun _ _ _ h => h) (Or.inl ⟨by rfl, by (intro wS hSw; (try dsimp only at hSw); go_simp; try with_reducible rfl)⟩) (by assumption) ?_
            (try simp only [Act.put, List.setIfInBounds_toArray, List.set_cons_zero, List.set_cons_succ])
            refine wpAnyH_take (i := 5) (oi := { dst := some 74, op := Op.move (Operand.tmp 12), type := 3, pos := _, after := #[], guard := none }) (v := _) rfl (by kernel_rfl) (by kernel_rfl) (by kernel_rfl) (fun _ _ _ h => h) (Or.inl ⟨by rfl, by (intro wS hSw; (try dsimp only at hSw); go_simp; try with_reducible rfl)⟩) (by assumption) ?_
            (try simp only [Act.put, List.setIfInBounds_toArray, List.set_cons_zero, List.set_cons_succ])
            refine wpAnyH_take (i := 6) (oi := { dst := some 75, op := Op.binOp BinOp.add 3 (Operand.tmp 73) (Operand.tmp 74) 3, type := 3, pos := _, after := #[{ on := 4, ground := Ground.data }, { on := 5, ground := Ground.data }], guard := none }) (v := _) rfl (by kernel_rfl) (by kernel_rfl) (by kernel_rfl) (fun _ _ _ h => h) (Or.inl ⟨by rfl, by (intro wS hSw; (try dsimp only at hSw); go_simp; try with_reducible rfl)⟩) (by assumption) ?_
            (try simp only [Act.put, List.setIfInBounds_toArray, List.set_cons_zero, List.set_cons_succ])
            refine wpAnyH_take (i := 7) (oi := { dst := some 76, op := Op.move (Operand.tmp 8), type := 132, pos := _, after := #[], guard := none }) (v := _) rfl (by kernel_rfl) (by kernel_rfl) (by kernel_rfl) (fun _ _ _ h => h) (Or.inl ⟨by rfl, by (intro wS hSw; (try dsimp only at hSw); go_simp; try with_reducible rfl)⟩) (by assumption) ?_
            (try simp only [Act.put, List.setIfInBounds_toArray, List.set_cons_zero, List.set_cons_succ])
            refine wpAnyH_take (i := 8) (oi := { dst := some 77, op := Op.move (Operand.tmp 12), type := 3, pos := _, after := #[], guard := none }) (v := _) rfl (by kernel_rfl) (by kernel_rfl) (by kernel_rfl) (fun _ _ _ h => h) (Or.inl ⟨by rfl, by (intro wS hSw; (try dsimp only at hSw); go_simp; try with_reducible rfl)⟩) (by assumption) ?_
            (try simp only [Act.put, List.setIfInBounds_toArray, List.set_cons_zero, List.set_cons_succ])
            refine wpAnyH_take (i := 9) (oi := { dst := some 78, op := Op.indexAddr 132 (Operand.tmp 76) (Operand.tmp 77), type := 0, pos := _, after := #[{ on := 7, ground := Ground.data }, { on := 8, ground := Ground.data }], guard := none }) (v := _) rfl (by kernel_rfl) (by kernel_rfl) (by kernel_rfl) (fun _ _ _ h => h) (Or.inl ⟨by rfl, by (intro wS hSw; (try dsimp only at hSw); go_simp; try with_reducible rfl)⟩) (by assumption) ?_
            (try simp only [Act.put, List.setIfInBounds_toArray, List.set_cons_zero, List.set_cons_succ])
            refine wpAnyH_take (i := 10) (oi := { dst := some 79, op := Op.load 82 (Operand.tmp 78), type := 82, pos := _, after := #[{ on := 9, ground := Ground.data }], guard := none }) (v := _) rfl (by kernel_rfl) (by kernel_rfl) (by kernel_rfl) (fun _ _ _ h => h) (Or.inl ⟨by rfl, by (intro wS hSw; (try dsimp only at hSw); go_simp; try with_reducible rfl)⟩) (by assumption) ?_
            (try simp only [Act.put, List.setIfInBounds_toArray, List.set_cons_zero, List.set_cons_succ])
            refine wpAnyH_ready (rs := [11]) (by kernel_rfl) (by simp) ?_
            refine AllReadyH.cons (o := { dst := some 80, op := Op.call { callee := Callee.value (Operand.func 64), args := #[Operand.tmp 72, Operand.tmp 75, Operand.tmp 79], argTypes := #[54, 3, 82] }, type := 27, pos := _, after := #[{ on := 3, ground := Ground.data }, { on := 6, ground := Ground.data }, { on := 10, ground := Ground.data }], guard := none }) rfl (fun K hK => ?_) AllReadyH.nil
            go_simp
            refine (write_m _ g a true D' C' q x (by exact MD.out) (by rw [SV.out.len, HQ.out]; omega) hxb).mono ?_
            rintro e W5 ⟨rfl, C5, hm5, hk5⟩
            have M5 := Lib.hid hm5
            have k5 : Keep wr.heap.size [g, a] wr W5 := hk5.undrew
            have K5 := Lib.hid (KV.out.trans (k5.mono KV.out.size (fun _ _ h => h)))
            have y5 : W5.cell? ⟨v, 0, none⟩ = some (bptr g) ∧ W5.cell? ⟨xb, k, none⟩ = some (.int .u32 (x : Int)) := ⟨(B3.out.keepS K5.out hvg).cell 0, (k5.cell (p := ⟨xb, k, none⟩) hxl (HAn.out xb (by simp [blks]))).trans hxc⟩
            clear hm5 hk5 k5
            refine hK.out _ _ (by exact y5) (fun hHeld => ?_)
            clear hK K
            (try simp only [Act.put, List.setIfInBounds_toArray, List.set_cons_zero, List.set_cons_succ])
            refine wpAnyH_done (by kernel_rfl) ?_ _
            go_wp2_with fail
            go_roundw
            case rel => exact ⟨k + 1, _, C5, by omega, by go_num, by rw [HQ.out]; exact SV.out.more (by rw [HWL.out]; omega) (by omega) (by rw [HWL.out]; exact hkm) HX2.out, M5.out, K5.out⟩
            case measure => simp [intOf] <;> omega
          · have hkmi : ¬ (k : Int) < (m : Int) := by omega
            have hkm2 : k = m := by omega
            obtain ⟨x, hx⟩ : ∃ x, (wordsF G b)[0]? = some x := ⟨_, List.getElem?_eq_getElem (by rw [HWL.out]; omega)⟩
            obtain ⟨xb, rfl, hxl, hxc⟩ : ∃ y, A = some ⟨y, 0, none⟩ ∧ y < wr.heap.size ∧ wr.cell? ⟨y, 0, none⟩ = some (.int .u32 (x : Int)) := by
              obtain ⟨y, h1, h2, h3⟩ := SW.out.cell (j := 0) (by omega)
              exact ⟨y, h1, h2, by rw [h3]; unfold u32s; rw [List.getElem?_map, hx]; rfl⟩
            have hxb : x < 4294967296 := wordsF_lt hG2 HO.out hbl hx
            have hm1 : 0 < m := by omega
            have HX2 := Lib.hid hx
            have HKM := Lib.hid hkm2
            clear hx hkm2
            go_wp2_with fail
            have y0d : wr.drew.cell? ⟨v, 0, none⟩ = some (bptr g) ∧ wr.drew.cell? ⟨xb, 0, none⟩ = some (.int .u32 (x : Int)) := ⟨y0, hxc⟩
            have MD := Lib.hid MM.out.drew1
            refine wp_region_held_drew (S := (fun w' => w'.cell? ⟨v, 0, none⟩ = some (bptr g) ∧ w'.cell? ⟨xb, 0, none⟩ = some (.int .u32 (x : Int)))) (by kernel_rfl) (by exact y0d) (fun hHeld => ?_)
            refine wpAnyH_take (i := 0) (oi := { dst := some 46, op := Op.move (Operand.tmp 0), type := 56, pos := _, after := #[], guard := none }) (v := _) rfl (by kernel_rfl) (by kernel_rfl) (by kernel_rfl) (fun _ _ _ h => h) (Or.inl ⟨by rfl, by (intro wS hSw; (try dsimp only at hSw); go_simp; try with_reducible rfl)⟩) (by assumption) ?_
            (try simp only [Act.put, List.setIfInBounds_toArray, List.set_cons_zero, List.set_cons_succ])
            refine wpAnyH_take (i := 1) (oi := { dst := some 47, op := Op.nilCheck (Operand.tmp 46), type := 0, pos := _, after := #[{ on := 0, ground := Ground.data }], guard := none }) (v := _) rfl (by kernel_rfl) (by kernel_rfl) (by kernel_rfl) (fun _ _ _ h => h) (Or.inl ⟨by rfl, by (intro wS hSw; (try dsimp only at hSw); go_simp; try with_reducible rfl)⟩) (by assumption) ?_
            (try simp only [Act.put, List.setIfInBounds_toArray, List.set_cons_zero, List.set_cons_succ])
            refine wpAnyH_take (i := 2) (oi := { dst := some 48, op := Op.fieldAddr 131 (Operand.tmp 47) 0, type := 0, pos := _, after := #[{ on := 1, ground := Ground.data }], guard := none }) (v := _) rfl (by kernel_rfl) (by kernel_rfl) (by kernel_rfl) (fun _ _ _ h => h) (Or.inl ⟨by rfl, by (intro wS hSw; (try dsimp only at hSw); go_simp; try with_reducible rfl)⟩) (by assumption) ?_
            (try simp only [Act.put, List.setIfInBounds_toArray, List.set_cons_zero, List.set_cons_succ])
            refine wpAnyH_take (i := 3) (oi := { dst := some 49, op := Op.load 54 (Operand.tmp 48), type := 54, pos := _, after := #[{ on := 2, ground := Ground.data }], guard := none }) (v := _) rfl (by kernel_rfl) (by kernel_rfl) (by kernel_rfl) (fun _ _ _ h => h) (Or.inl ⟨by rfl, by (intro wS hSw; (try dsimp only at hSw); go_simp; try with_reducible rfl)⟩) (by assumption) ?_
            (try simp only [Act.put, List.setIfInBounds_toArray, List.set_cons_zero, List.set_cons_succ])
            refine wpAnyH_take (i := 4) (oi := { dst := some 50, op := Op.move (Operand.tmp 9), type := 3, pos := _, after := #[], guard := none }) (v := _) rfl (by kernel_rfl) (by kernel_rfl) (by kernel_rfl) (fun _ _ _ h => h) (Or.inl ⟨by rfl, by (intro wS hSw; (try dsimp only at hSw); go_simp; try with_reducible rfl)⟩) (by assumption) ?_
            (try simp only [Act.put, List.setIfInBounds_toArray, List.set_cons_zero, List.set_cons_succ])
            refine wpAnyH_take (i := 5) (oi := { dst := some 51, op := Op.move (Operand.tmp 8), type := 132, pos := _, after := #[], guard := none }) (v := _) rfl (by kernel_rfl) (by kernel_rfl) (by kernel_rfl) (fun _ _ _ h => h) (Or.inl ⟨by rfl, by (intro wS hSw; (try dsimp only at hSw); go_simp; try with_reducible rfl)⟩) (by assumption) ?_
            (try simp only [Act.put, List.setIfInBounds_toArray, List.set_cons_zero, List.set_cons_succ])
            refine wpAnyH_take (i := 6) (oi := { dst := some 52, op := Op.indexAddr 132 (Operand.tmp 51) (Operand.const (Value.int IntKind.i64 0)), type := 0, pos := _, after := #[{ on := 5, ground := Ground.data }], guard := none }) (v := _) rfl (by kernel_rfl) (by kernel_rfl) (by kernel_rfl) (fun _ _ _ h => h) (Or.inl ⟨by rfl, by (intro wS hSw; (try dsimp only at hSw); go_simp; try with_reducible rfl)⟩) (by assumption) ?_
            (try simp only [Act.put, List.setIfInBounds_toArray, List.set_cons_zero, List.set_cons_succ])
            refine wpAnyH_take (i := 7) (oi := { dst := some 53, op := Op.load 82 (Operand.tmp 52), type := 82, pos := _, after := #[{ on := 6, ground := Ground.data }], guard := none }) (v := _) rfl (by kernel_rfl) (by kernel_rfl) (by kernel_rfl) (fun _ _ _ h => h) (Or.inl ⟨by rfl, by (intro wS hSw; (try dsimp only at hSw); go_simp; try with_reducible rfl)⟩) (by assumption) ?_
            (try simp only [Act.put, List.setIfInBounds_toArray, List.set_cons_zero, List.set_cons_succ])
            refine wpAnyH_ready (rs := [8]) (by kernel_rfl) (by simp) ?_
            refine AllReadyH.cons (o := { dst := some 54, op := Op.call { callee := Callee.value (Operand.func 64), args := #[Operand.tmp 49, Operand.tmp 50, Operand.tmp 53], argTypes := #[54, 3, 82] }, type := 27, pos := _, after := #[{ on := 3, ground := Ground.data }, { on := 4, ground := Ground.data }, { on := 7, ground := Ground.data }], guard := none }) rfl (fun K hK => ?_) AllReadyH.nil
            go_simp
            refine (write_m _ g a true D' C' J x (by exact MD.out) (by rw [SV.out.len]; omega) hxb).mono ?_
            rintro e W5 ⟨rfl, C5, hm5, hk5⟩
            have M5 := Lib.hid hm5
            have k5 : Keep wr.heap.size [g, a] wr W5 := hk5.undrew
            have K5 := Lib.hid (KV.out.trans (k5.mono KV.out.size (fun _ _ h => h)))
            have y5 : W5.cell? ⟨v, 0, none⟩ = some (bptr g) ∧ W5.cell? ⟨xb, 0, none⟩ = some (.int .u32 (x : Int)) := ⟨(B3.out.keepS K5.out hvg).cell 0, (k5.cell (p := ⟨xb, 0, none⟩) hxl (HAn.out xb (by simp [blks]))).trans hxc⟩
            clear hm5 hk5 k5
            refine hK.out _ _ (by exact y5) (fun hHeld => ?_)
            clear hK K
            (try simp only [Act.put, List.setIfInBounds_toArray, List.set_cons_zero, List.set_cons_succ])
            refine wpAnyH_done (by kernel_rfl) ?_ _
            go_wp2_with fail
            go_roundw
            case rel => exact ⟨k + 1, _, C5, by omega, by go_num, by
              have h1 := SV.out
              rw [show k = (wordsF G b).length by rw [HWL.out]; exact HKM.out] at h1 ⊢
              exact h1.last (by rw [HWL.out]; omega) (by rw [HWL.out]; omega) HX2.out, M5.out, K5.out⟩
            case measure => simp [intOf] <;> omega
      · obtain rfl : dn = k := by omega
        have hlen : D'.length = 400 := by rw [SV.out.len]; exact hl
        have hh1 : Holds D' i (if dn = nw b + 4 then some (G, b) else none) := Holds.made SV.out HJ.out ⟨by have := HG.out; omega, hG2⟩ HO.out hbl (by have := HM.out; have := HN.out; omega)
        have hh2 : Holds D' (1 - i) o := Holds.out SV.out (by have := HJ.out; rw [HJ.out]; congr 1; omega) (by omega) (by rw [HWL.out]; omega) HOO.out
        have HH1 := Lib.hid hh1
        have HH2 := Lib.hid hh2
        clear hh1 hh2
        by_cases hf : dn = N
        · have hfi : ¬ (dn : Int) < (N : Int) := by omega
          have hf4 : dn = nw b + 4 := by have := HM.out; have := HN.out; omega
          have HF := Lib.hid hf4
          clear hf4
          go_wp2_with fail
          go_ret
          refine ⟨true, D', C', rfl, fun _ => rfl, hlen, ?_, HH2.out, MM.out, KW.out⟩
          have h := HH1.out
          rw [if_pos HF.out] at h
          exact h
        · have hfi : (dn : Int) < (N : Int) := by omega
          have hf4 : ¬ dn = nw b + 4 := by have := HM.out; have := HN.out; omega
          have HF := Lib.hid hf4
          clear hf4
          go_wp2_with fail
          go_ret
          refine ⟨false, D', C', rfl, fun hzz => absurd (HDN.out hzz) hf, hlen, ?_, HH2.out, MM.out, KW.out⟩
          have h := HH1.out
          rw [if_neg HF.out] at h
          exact h
end Go.Proofs.Ytfkbcflgbjncdaa
