/- (record).right and Load: their contracts. -/
import Derived.Test.YtfkbcflgbjncdaaCkI
import Derived.Test.YtfkbcflgbjncdaaCkS
namespace Go.Proofs.Ytfkbcflgbjncdaa
set_option linter.unusedVariables false
set_option linter.unusedSimpArgs false
open Go.RowKit
def rightB (r : Rc) : Bool := if r.n = 0 then r.m == 0 else (r.m % 2 == 1) && (decide (64 ≤ r.n) || (r.m / 2 ^ r.n.toNat == 0))
def RightPost (w : World) (r : Rc) (b : Bool) (e : Ending) (w' : World) : Prop := e = .returned (.bool b) ∧ w.alloc (.cells #[.int .i64 r.n, .int .u64 r.m] 97) = w'
set_option maxHeartbeats 1000000 in
theorem right_b (w : World) (r : Rc) (b : Bool) (hb : rightB r = b) (hr : RcOk r) :
    Calls Try.prog 74 #[.agg #[.int .i64 r.n, .int .u64 r.m]] w (RightPost w r b) := by
  obtain ⟨⟨a0, a1⟩, a2, a3⟩ := hr
  unfold rightB at hb
  by_cases h0 : r.n = 0
  · rw [if_pos h0] at hb
    have e0 : (r.n == 0) = true := beq_iff_eq.2 h0
    have HB := Lib.hid hb
    clear h0 hb
    go_enter Try.func74, Try.ntmps74
    go_wp2_with fail
    go_ret
    exact ⟨by rw [← HB.out]; rfl, rfl⟩
  · rw [if_neg h0] at hb
    have e0 : (r.n == 0) = false := beq_false_of_ne h0
    have hand := u64_and1 r.m a2 a3
    cases h1 : (r.m % 2 == 1) with
    | false =>
      rw [h1, Bool.false_and] at hb
      subst hb
      clear h0
      go_enter Try.func74, Try.ntmps74
      go_wp2_with fail
      go_ret
      exact ⟨rfl, rfl⟩
    | true =>
      rw [h1, Bool.true_and] at hb
      by_cases h64 : 64 ≤ r.n
      · rw [decide_eq_true h64, Bool.true_or] at hb
        subst hb
        clear h0
        go_enter Try.func74, Try.ntmps74
        go_wp2_with fail
        go_ret
        exact ⟨rfl, rfl⟩
      · rw [decide_eq_false h64, Bool.false_or] at hb
        have h64' : r.n < 64 := by omega
        have hdf : decide (64 ≤ r.n) = false := decide_eq_false h64
        have HB := Lib.hid hb
        clear h0 hb h64
        go_enter Try.func74, Try.ntmps74
        go_wp2_with fail
        go_ret
        exact ⟨by rw [← HB.out]; rfl, rfl⟩

/-! ### Load -/
def rdRec (s : RS) : Rc × RS := (⟨(stU s 2).1, (stU (stU s 2).2 8).1⟩, (stU (stU s 2).2 8).2)
def ldGo : Nat → RS → Option (List Rc × RS)
  | 0, s => some ([], s)
  | k + 1, s => if rightB (rdRec s).1 then (match ldGo k (rdRec s).2 with | some (l, s'') => some ((rdRec s).1 :: l, s'') | none => none) else none
def loadR (b : List Int) : Option (List Rc) := match ldGo 16 (some b) with
  | some (l, s) => if endS s then some l else none
  | none => none
theorem rdRec_ok {s : RS} (h : RSok s) : RcOk (rdRec s).1 ∧ RSok (rdRec s).2 := by
  have h1 : 0 ≤ (stU s 2).1 ∧ (stU s 2).1 < 256 ^ 2 := stU_bd (sz := 2) (by omega) h
  have h2 : 0 ≤ (stU (stU s 2).2 8).1 ∧ (stU (stU s 2).2 8).1 < 256 ^ 8 := stU_bd (s := (stU s 2).2) (sz := 8) (by omega) (stU_ok h)
  exact ⟨⟨⟨h1.1, by have := h1.2; simp only [rdRec]; omega⟩, h2.1, by have := h2.2; simp only [rdRec]; omega⟩, stU_ok (stU_ok h)⟩
theorem RO.drew1 {w : World} {g : Nat} {X : Option Addr} {s : RS} (h : RO w g X s) : RO w.drew g X s := h.keepS (S := []) (Keep.refl _ _ _).drew (by simp) (by simp)
def LoadPost (w : World) (res : Option (List Rc)) (e : Ending) (w' : World) : Prop := Keep w.heap.size [] w w' ∧ match res with
  | none => e = .returned (.tuple #[.pointer none, .int .i64 4])
  | some l => ∃ g, e = .returned (.tuple #[bptr g, .int .i64 0]) ∧ w.heap.size ≤ g ∧ Led w' g l
/-- the state of the loop -/
def LdRel (w : World) (gr gl : Nat) (res : Option (List Rc × RS)) (i : Nat) (wr : World) : Prop :=
  ∃ X s pre, gl ∉ blks X ∧ RO wr gr X s ∧ RSok s ∧ pre.length = i ∧ Led wr gl (pre ++ List.replicate (16 - i) ⟨0, 0⟩) ∧ Keep w.heap.size [] w wr ∧
    res = (match ldGo (16 - i) s with | some (l, s') => some (pre ++ l, s') | none => none)
set_option maxRecDepth 10000 in
set_option maxHeartbeats 4000000 in
theorem load_r (w : World) (X0 : Option Addr) (m c : Nat) (B : List Int) (res : Option (List Rc)) (hres : loadR B = res) (hO : Oct B) (hm : m ≤ 100000000) (hv : Vw w X0 m 1 (octs B)) :
    Calls Try.prog 27 #[.slice X0 m c] w (LoadPost w res) := by
  have hlm : B.length = m := by simpa [octs] using hv.1
  have HV := Lib.hid hv
  have HB0 : Hid (RSok (some B)) := by rintro _ ⟨⟩; exact ⟨hO, by omega⟩
  have HRES := Lib.hid hres
  clear hv hO hlm hres
  go_enter Try.func27, Try.ntmps27
  go_wp2_with fail
  refine (rnew_all _ X0 m c B (by omega) HV.out).mono ?_
  rintro e w1 ⟨gr, A1, rfl, hr, hk, hg, hA, hAl⟩
  have HGR := Lib.hid hg
  have K1 := Lib.hid hk
  have R1 := Lib.hid hr
  have HAL := Lib.hid hAl
  clear hg hk hr hA hAl
  go_wp2_with fail
  refine (new_any _).mono ?_
  rintro e w2 ⟨gl, rfl, hg, hl, hk⟩
  have HGA : Hid (gl ∉ blks A1) := fun h => by have := HAL.out _ h; omega
  have HGL : Hid (w.heap.size ≤ gl) := by rw [hg]; exact K1.out.size
  have HNE : Hid (gl ≠ gr) := by have : gr < w1.heap.size := by (obtain ⟨_, _, _, _, _, h4, _⟩ := R1.out; exact h4.lt)
                                 unfold Hid; omega
  have K2 : Hid (Keep w.heap.size [] w w2) := K1.out.chain0 (Nat.le_refl _) hk
  have L2 := Lib.hid hl
  have R2 := Lib.hid (Rd.keepS R1.out hk (by simp) (by simp))
  clear hg hl hk
  obtain ⟨R0, hR0⟩ : ∃ R0, ldGo 16 (some B) = R0 := ⟨_, rfl⟩
  have HR0 := Lib.hid hR0
  clear hR0
  go_wp2_with fail
  go_loopw [10] (fun v wr => ∃ i : Nat, i ≤ 16 ∧ v = .int .i64 i ∧ LdRel w gr gl R0 i wr) (fun v _ => 16 - (intOf v).toNat)
  case atStart => exact ⟨0, by omega, rfl, A1, some B, [], HGA.out, R2.out, HB0.out, rfl, L2.out, K2.out, by rw [← HR0.out]; cases ldGo 16 (some B) <;> rfl⟩
  case round =>
    clear K1 K2 R1 R2 L2
    obtain ⟨i, hi, rfl, X, s, pre, hgx, hro, hok, hpl, hld, hkw, hr0⟩ := hrel
    have HGX := Lib.hid hgx
    have HOK := Lib.hid hok
    have HRO := Lib.hid hro
    have HLD := Lib.hid hld
    have HKW := Lib.hid hkw
    have HPL := Lib.hid hpl
    by_cases hlt : i < 16
    · obtain ⟨n, s1, hu1⟩ : ∃ n s1, stU s 2 = (n, s1) := ⟨_, _, rfl⟩
      obtain ⟨mm, s2, hu2⟩ : ∃ mm s2, stU s1 8 = (mm, s2) := ⟨_, _, rfl⟩
      have hrd : rdRec s = (⟨n, mm⟩, s2) := by unfold rdRec; rw [hu1]; simp only; rw [hu2]
      have hrok := rdRec_ok hok
      rw [hrd] at hrok
      have HU1 := Lib.hid hu1
      have HU2 := Lib.hid hu2
      have HOK1 : Hid (RSok s1) := by have := stU_ok (z := 2) hok; rw [hu1] at this; exact this
      have HOK2 : Hid (RSok s2) := hrok.2
      have HRR : Hid (RcOk ⟨n, mm⟩) := hrok.1
      obtain ⟨q, hq⟩ : ∃ q, 16 - i = q + 1 := ⟨16 - i - 1, by omega⟩
      have HRC : Hid ((pre ++ List.replicate (16 - i) (⟨0, 0⟩ : Rc))[i]? = some ⟨0, 0⟩) := by
        unfold Hid; rw [List.getElem?_append_right (by omega), hpl, Nat.sub_self, hq]; rfl
      have HSET : Hid ((pre ++ List.replicate (16 - i) (⟨0, 0⟩ : Rc)).set i ⟨n, mm⟩ = (pre ++ [⟨n, mm⟩]) ++ List.replicate (16 - (i + 1)) ⟨0, 0⟩) := by
        unfold Hid; rw [List.set_append_right _ _ (by omega), hpl, Nat.sub_self, hq, show 16 - (i + 1) = q by omega]; simp [List.replicate_succ]
      rw [hq] at hr0
      unfold ldGo at hr0
      rw [hrd] at hr0
      have HQ : Hid (16 - (i + 1) = q) := (by omega : 16 - (i + 1) = q)
      have HR1 := Lib.hid hr0
      have n0 : IntKind.i64.wrap n = n := IntWalk.i64_in _ (by have := HRR.out.1; simp only at this; omega)
      have hi16 : (i : Int) < 16 := by omega
      have hi0 : (0 : Int) ≤ (i : Int) := by omega
      have hnn : 0 ≤ n := HRR.out.1.1
      have hnn1 : n ≤ 65535 := HRR.out.1.2
      clear hgx hro hok hpl hld hkw hu1 hu2 hrd hrok hq hr0
      go_wp2_with fail
      refine wp_region_held_drew (S := (fun _ => True)) (by kernel_rfl) trivial (fun hHeld => ?_)
      refine wpAnyH_take (i := 0) (oi := { dst := some 13, op := Op.move (Operand.tmp 5), type := 23, pos := _, after := #[], guard := none }) (v := _) rfl (by kernel_rfl) (by kernel_rfl) (by kernel_rfl) (fun _ _ _ h => h) (Or.inl ⟨by rfl, by (intro wS hSw; (try dsimp only at hSw); go_simp; try with_reducible rfl)⟩) (by assumption) ?_
      (try simp only [Act.put, List.setIfInBounds_toArray, List.set_cons_zero, List.set_cons_succ])
      refine wpAnyH_take (i := 1) (oi := { dst := some 14, op := Op.move (Operand.tmp 6), type := 3, pos := _, after := #[], guard := none }) (v := _) rfl (by kernel_rfl) (by kernel_rfl) (by kernel_rfl) (fun _ _ _ h => h) (Or.inl ⟨by rfl, by (intro wS hSw; (try dsimp only at hSw); go_simp; try with_reducible rfl)⟩) (by assumption) ?_
      (try simp only [Act.put, List.setIfInBounds_toArray, List.set_cons_zero, List.set_cons_succ])
      refine wpAnyH_take (i := 2) (oi := { dst := some 15, op := Op.move (Operand.tmp 4), type := 120, pos := _, after := #[], guard := none }) (v := _) rfl (by kernel_rfl) (by kernel_rfl) (by kernel_rfl) (fun _ _ _ h => h) (Or.inl ⟨by rfl, by (intro wS hSw; (try dsimp only at hSw); go_simp; try with_reducible rfl)⟩) (by assumption) ?_
      (try simp only [Act.put, List.setIfInBounds_toArray, List.set_cons_zero, List.set_cons_succ])
      refine wpAnyH_take (i := 5) (oi := { dst := some 18, op := Op.move (Operand.tmp 4), type := 120, pos := _, after := #[], guard := none }) (v := _) rfl (by kernel_rfl) (by kernel_rfl) (by kernel_rfl) (fun _ _ _ h => h) (Or.inl ⟨by rfl, by (intro wS hSw; (try dsimp only at hSw); go_simp; try with_reducible rfl)⟩) (by assumption) ?_
      (try simp only [Act.put, List.setIfInBounds_toArray, List.set_cons_zero, List.set_cons_succ])
      refine wpAnyH_take (i := 8) (oi := { dst := some 21, op := Op.nilCheck (Operand.tmp 13), type := 0, pos := _, after := #[{ on := 0, ground := Ground.data }], guard := none }) (v := _) rfl (by kernel_rfl) (by kernel_rfl) (by kernel_rfl) (fun _ _ _ h => h) (Or.inl ⟨by rfl, by (intro wS hSw; (try dsimp only at hSw); go_simp; try with_reducible rfl)⟩) (by assumption) ?_
      (try simp only [Act.put, List.setIfInBounds_toArray, List.set_cons_zero, List.set_cons_succ])
      refine wpAnyH_take (i := 9) (oi := { dst := some 22, op := Op.fieldAddr 100 (Operand.tmp 21) 1, type := 0, pos := _, after := #[{ on := 8, ground := Ground.data }], guard := none }) (v := _) rfl (by kernel_rfl) (by kernel_rfl) (by kernel_rfl) (fun _ _ _ h => h) (Or.inl ⟨by rfl, by (intro wS hSw; (try dsimp only at hSw); go_simp; try with_reducible rfl)⟩) (by assumption) ?_
      (try simp only [Act.put, List.setIfInBounds_toArray, List.set_cons_zero, List.set_cons_succ])
      refine wpAnyH_ready (rs := [3]) (by kernel_rfl) (by simp) ?_
      refine AllReadyH.cons (o := { dst := some 16, op := Op.call { callee := Callee.value (Operand.func 53), args := #[Operand.tmp 15, Operand.const (Value.int IntKind.i64 2)], argTypes := #[120, 3] }, type := 95, pos := _, after := #[{ on := 2, ground := Ground.data }], guard := none }) rfl (fun K hK => ?_) AllReadyH.nil
      go_simp
      refine (ruint_s _ gr X s 2 HOK.out (by exact HRO.out.drew1)).mono ?_
      rw [HU1.out]
      rintro e w1' ⟨X1, rfl, hr, hk, hx⟩
      have R1 := Lib.hid hr
      have L1 := Lib.hid (HLD.out.keepS hk.undrew (by simpa using HNE.out))
      have K1 : Hid (Keep w.heap.size [] w w1') := HKW.out.chain1 (Nat.le_refl _) hk.undrew HGR.out
      have HX1 := Lib.hid hx
      clear hr hk hx
      refine hK.out _ _ trivial (fun hHeld => ?_)
      clear hK K
      (try simp only [Act.put, List.setIfInBounds_toArray, List.set_cons_zero, List.set_cons_succ])
      refine wpAnyH_take (i := 4) (oi := { dst := some 17, op := Op.convert 95 3 (Operand.tmp 16), type := 3, pos := _, after := #[{ on := 3, ground := Ground.data }], guard := none }) (v := _) rfl (by kernel_rfl) (by kernel_rfl) (by kernel_rfl) (fun _ _ _ h => h) (Or.inl ⟨by rfl, by (intro wS hSw; (try dsimp only at hSw); go_simp; try with_reducible rfl)⟩) (by assumption) ?_
      (try simp only [Act.put, List.setIfInBounds_toArray, List.set_cons_zero, List.set_cons_succ])
      refine wpAnyH_ready (rs := [6]) (by kernel_rfl) (by simp) ?_
      refine AllReadyH.cons (o := { dst := some 19, op := Op.call { callee := Callee.value (Operand.func 53), args := #[Operand.tmp 18, Operand.const (Value.int IntKind.i64 8)], argTypes := #[120, 3] }, type := 95, pos := _, after := #[{ on := 5, ground := Ground.data }, { on := 3, ground := Ground.chain }], guard := none }) rfl (fun K hK => ?_) AllReadyH.nil
      go_simp
      refine (ruint_s _ gr X1 s1 8 HOK1.out (by exact R1.out)).mono ?_
      rw [HU2.out]
      rintro e w2' ⟨X2, rfl, hr, hk, hx⟩
      have R2 := Lib.hid hr
      have L2 := Lib.hid (L1.out.keepS hk (by simpa using HNE.out))
      have K2 : Hid (Keep w.heap.size [] w w2') := K1.out.chain1 (Nat.le_refl _) hk HGR.out
      have HX2 := Lib.hid hx
      obtain ⟨d1, d2⟩ := L2.out.at1 HRC.out
      have f1 := L2.out.2.1.frozen (1 + i * 2)
      have f2 := L2.out.2.1.frozen (1 + i * 2 + 1)
      clear hr hk hx
      refine hK.out _ _ trivial (fun hHeld => ?_)
      clear hK K
      (try simp only [Act.put, List.setIfInBounds_toArray, List.set_cons_zero, List.set_cons_succ])
      refine wpAnyH_take (i := 7) (oi := { dst := some 20, op := Op.build 97 #[(0, Operand.tmp 17), (1, Operand.tmp 19)], type := 97, pos := _, after := #[{ on := 4, ground := Ground.data }, { on := 6, ground := Ground.data }], guard := none }) (v := _) rfl (by kernel_rfl) (by kernel_rfl) (by kernel_rfl) (fun _ _ _ h => h) (Or.inl ⟨by rfl, by (intro wS hSw; (try dsimp only at hSw); go_simp; try with_reducible rfl)⟩) (by assumption) ?_
      (try simp only [Act.put, List.setIfInBounds_toArray, List.set_cons_zero, List.set_cons_succ])
      refine wpAnyH_take (i := 10) (oi := { dst := some 23, op := Op.indexAddr 98 (Operand.tmp 22) (Operand.tmp 14), type := 0, pos := _, after := #[{ on := 9, ground := Ground.data }, { on := 1, ground := Ground.data }, { on := 0, ground := Ground.phase }, { on := 1, ground := Ground.phase }, { on := 2, ground := Ground.phase }, { on := 3, ground := Ground.phase }, { on := 4, ground := Ground.phase }, { on := 5, ground := Ground.phase }, { on := 6, ground := Ground.phase }, { on := 7, ground := Ground.phase }], guard := none }) (v := _) rfl (by kernel_rfl) (by kernel_rfl) (by kernel_rfl) (fun _ _ _ h => h) (Or.inl ⟨by rfl, by (intro wS hSw; (try dsimp only at hSw); go_simp; try with_reducible rfl)⟩) (by assumption) ?_
      (try simp only [Act.put, List.setIfInBounds_toArray, List.set_cons_zero, List.set_cons_succ])
      refine wpAnyH_ready (rs := [11]) (by kernel_rfl) (by simp) ?_
      refine AllReadyH.cons (o := { dst := none, op := Op.store 97 (Operand.tmp 23) (Operand.tmp 20), type := 0, pos := _, after := #[{ on := 10, ground := Ground.data }, { on := 7, ground := Ground.data }, { on := 6, ground := Ground.chain }, { on := 0, ground := Ground.phase }, { on := 1, ground := Ground.phase }, { on := 2, ground := Ground.phase }, { on := 3, ground := Ground.phase }, { on := 4, ground := Ground.phase }, { on := 5, ground := Ground.phase }, { on := 6, ground := Ground.phase }, { on := 7, ground := Ground.phase }], guard := none }) rfl (fun K hK => ?_) AllReadyH.nil
      go_simp
      refine hK.out _ _ trivial (fun hHeld => ?_)
      clear hK K
      (try simp only [Act.put, List.setIfInBounds_toArray, List.set_cons_zero, List.set_cons_succ])
      refine wpAnyH_done (by kernel_rfl) ?_ _
      obtain ⟨W3, hW3⟩ : ∃ W3, W3 = (w2'.setCell ⟨gl, 1 + i * 2, none⟩ (.int .i64 n)).setCell ⟨gl, 1 + i * 2 + 1, none⟩ (.int .u64 mm) := ⟨_, rfl⟩
      have HW3 : Hid ((w2'.setCell ⟨gl, 1 + i * 2, none⟩ (.int .i64 n)).setCell ⟨gl, 1 + i * 2 + 1, none⟩ (.int .u64 mm) = W3) := hW3.symm
      have hk3 : Keep w2'.heap.size [gl] w2' W3 := by rw [hW3]; exact (Keep.refl _ _ _).set1.set1
      have L3 : Hid (Led W3 gl ((pre ++ [⟨n, mm⟩]) ++ List.replicate (16 - (i + 1)) ⟨0, 0⟩)) := by
        have h := Led.put L2.out ⟨n, mm⟩ HRC.out HRR.out (w' := W3) (by rw [hW3]; exact (L2.out.2.1.set_ _ _).set_ _ _)
        rw [HSET.out] at h
        exact h
      have HGX2 : Hid (gl ∉ blks X2) := fun h => HGX.out (HX1.out _ (HX2.out _ h))
      have R3 : Hid (RO W3 gr X2 s2) := R2.out.keepS hk3 (by simpa using HNE.out.symm) (fun x hx hm => by simp at hm; subst hm; exact HGX2.out hx)
      have K3 : Hid (Keep w.heap.size [] w W3) := K2.out.chain1 (Nat.le_refl _) hk3 HGL.out
      have hat : ((pre ++ [(⟨n, mm⟩ : Rc)]) ++ List.replicate (16 - (i + 1)) ⟨0, 0⟩)[i]? = some ⟨n, mm⟩ := by
        rw [List.append_assoc, List.getElem?_append_right (by have := HPL.out; omega), HPL.out, Nat.sub_self]; rfl
      obtain ⟨g1, g2⟩ := L3.out.at1 hat
      simp only at g1 g2
      rw [HW3.out]
      clear hW3 hk3 hat d1 d2 f1 f2
      cases hrb : rightB ⟨n, mm⟩ with
      | false =>
        have hR0 : R0 = none := by have := HR1.out; rw [hrb] at this; simpa using this
        have hrn : res = none := by
          rw [← HRES.out]; unfold loadR; rw [HR0.out, hR0]
        subst hrn
        have HRB := Lib.hid hrb
        clear hrb hR0
        go_wp2_with fail
        refine (right_b _ ⟨n, mm⟩ false HRB.out HRR.out).mono ?_
        rintro e w' ⟨rfl, rfl⟩
        go_wp2_with fail
        go_ret2
        exact ⟨K3.out.alloc K3.out.size _, rfl⟩
      | true =>
        have HRB := Lib.hid hrb
        have hR0 : R0 = (match ldGo (16 - (i + 1)) s2 with | some (l, s') => some ((pre ++ [⟨n, mm⟩]) ++ l, s') | none => none) := by
          have h := HR1.out
          rw [hrb, if_pos rfl] at h
          rw [h, HQ.out]
          cases ldGo q s2 with
          | none => rfl
          | some p => obtain ⟨l, s'⟩ := p; simp
        have HR00 := Lib.hid hR0
        clear hrb hR0
        go_wp2_with fail
        refine (right_b _ ⟨n, mm⟩ true HRB.out HRR.out).mono ?_
        rintro e w' ⟨rfl, rfl⟩
        go_wp2_with fail
        go_roundw
        case rel => exact ⟨i + 1, by omega, by go_num, X2, s2, pre ++ [⟨n, mm⟩], HGX2.out, R3.out.keepS (S := []) ((Keep.refl _ _ _).alloc (Nat.le_refl _) _) (by simp) (by simp), HOK2.out, by simp [HPL.out], L3.out.alloc _, K3.out.alloc K3.out.size _, HR00.out⟩
        case measure => simp [intOf] <;> omega
    · obtain rfl : i = 16 := by omega
      have hR0 : R0 = some (pre, s) := by rw [hr0]; simp [ldGo]
      have hld2 : Led wr gl pre := by simpa using hld
      have HL3 := Lib.hid hld2
      cases heb : endS s with
      | false =>
        have hrn : res = none := by
          rw [← HRES.out]; unfold loadR; rw [HR0.out, hR0]; simp only; rw [heb]; rfl
        subst hrn
        have HEB := Lib.hid heb
        clear hgx hro hok hpl hld hkw hr0 hR0 hld2 heb
        go_wp2_with fail
        refine (rend_s _ gr X s false HEB.out HRO.out).mono ?_
        rintro e w' ⟨rfl, rfl⟩
        go_wp2_with fail
        go_ret2
        exact ⟨HKW.out, rfl⟩
      | true =>
        have hrn : res = some pre := by
          rw [← HRES.out]; unfold loadR; rw [HR0.out, hR0]; simp only; rw [heb]; rfl
        subst hrn
        have HEB := Lib.hid heb
        clear hgx hro hok hpl hld hkw hr0 hR0 hld2 heb
        go_wp2_with fail
        refine (rend_s _ gr X s true HEB.out HRO.out).mono ?_
        rintro e w' ⟨rfl, rfl⟩
        go_wp2_with fail
        go_ret2
        exact ⟨HKW.out, gl, rfl, HGL.out, HL3.out⟩
end Go.Proofs.Ytfkbcflgbjncdaa
