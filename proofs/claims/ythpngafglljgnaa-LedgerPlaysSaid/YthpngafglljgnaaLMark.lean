/- The reference's ledger: Mark. -/
import Derived.Test.YthpngafglljgnaaLRef
import Derived.Test.YthpngafglljgnaaRg
import Derived.Deep.DeepCutAuto
namespace Go.Proofs.Ythpngafglljgnaa
set_option linter.unusedVariables false
set_option linter.unusedSimpArgs false
open Go.RowKit
def zR : List Value := (List.replicate 16 [Value.int .i64 0, Value.slice none 0 0]).flatten
theorem infoRL : (Try.prog.info? 40).map (·.size) = some 32 := by kernel_rfl
theorem infoI64 : (Try.prog.info? 3).map (fun i => (i.zero, i.size, i.bytes)) = some (some (.int .i64 0), 1, 8) := by kernel_rfl
theorem num_one (l : List Int) : ∀ u ∈ nums l, u.oneCell' = true := by
  intro u hu
  obtain ⟨x, _, rfl⟩ := List.mem_map.1 hu
  rfl
theorem slcap {w : World} {e : TypeId} {size n c : Nat} {A : Option Addr} {xs : List Value} (h : Sl w e size A n c xs) : n ≤ c ∧ c ≤ maxLen := by
  rcases h.form with ⟨_, rfl, rfl⟩ | ⟨g, _, _, h1, h2⟩
  · exact ⟨Nat.le_refl _, Nat.zero_le _⟩
  · exact ⟨h1, h2⟩
theorem rm_results (w : World) (tmps : Array Value) (g : Nat) (cs : Array Value) (z : Int) (h2 : tmps.getD 6 undef = bptr g) (h3 : tmps.getD 7 undef = .int .i64 z) (hb : Blk w g 40 cs) (hs : cs.size = 32) :
    (results Try.f33 tmps).run Try.prog w = .ok (.tuple #[.agg cs, .int .i64 z]) w := by
  have hl := run_loadVar_mid (P := Try.prog) w g 0 40 cs.toList _ hb.range Try.underlying40 rfl (by rw [infoRL]; simp [hs])
  simp only [Array.getD_eq_getD_getElem?] at h2 h3
  simp [results, Try.results33, h2, h3, asAddr, hl]
theorem all_set (cs : Array Value) (i : Nat) (v : Value) (h : cs.all (·.oneCell') = true) (hv : v.oneCell' = true) : (cs.setIfInBounds i v).all (·.oneCell') = true := by
  refine Array.all_eq_true_iff_forall_mem.2 (fun x hx => ?_)
  rcases Array.mem_or_eq_of_mem_setIfInBounds hx with h' | h'
  · exact Array.all_eq_true_iff_forall_mem.1 h x h'
  · rw [h']; exact hv
theorem rv_set {w F : World} {cs : Array Value} {M : List Mo} (hR : RV w cs M) {i : Nat} {x : Mo} (hx : M[i]? = some x) (k : Keep w.heap.size [] w F) {y : Mo} {A : Option Addr} {m c : Nat} (hs : Sl F 3 1 A m c (nums y.s)) :
    RV F ((cs.setIfInBounds (i * 2) (.int .i64 y.n)).setIfInBounds (i * 2 + 1) (.slice A m c)) (M.set i y) := by
  have hi : i < M.length := (List.getElem?_eq_some_iff.1 hx).1
  have hsz := hR.sz
  have hml := hR.ml
  refine ⟨by simpa using hR.sz, all_set _ _ _ (all_set _ _ _ hR.one rfl) rfl, by simpa using hR.ml, fun j u hj => ?_⟩
  rw [List.getElem?_set] at hj
  by_cases hij : i = j
  · subst hij
    rw [if_pos rfl, if_pos hi] at hj
    cases hj
    refine ⟨A, m, c, ?_, ?_, hs.vw (by omega), (slcap hs).1, (slcap hs).2, hs⟩
    · rw [Array.getElem?_setIfInBounds_ne (by omega), Array.getElem?_setIfInBounds_self_of_lt (by omega)]
    · rw [Array.getElem?_setIfInBounds_self_of_lt (by simp; omega)]
  · rw [if_neg hij] at hj
    obtain ⟨A', n', c', h1, h2, h3, h4⟩ := hR.at_ j u hj
    refine ⟨A', n', c', ?_, ?_, h3.keep0 k, h4.1, h4.2.1, h4.2.2.keep0 k⟩
    · rw [Array.getElem?_setIfInBounds_ne (by omega), Array.getElem?_setIfInBounds_ne (by omega)]; exact h1
    · rw [Array.getElem?_setIfInBounds_ne (by omega), Array.getElem?_setIfInBounds_ne (by omega)]; exact h2
def RMPost (w : World) (M : List Mo) (z : Int) (e : Ending) (w' : World) : Prop := ∃ cs, e = .returned (.tuple #[.agg cs, .int .i64 z]) ∧ RV w' cs M ∧ Keep w.heap.size [] w w'
set_option maxRecDepth 100000 in
set_option maxHeartbeats 16000000 in
theorem rmark_any (w : World) (cs0 : Array Value) (M M' : List Mo) (s n z : Int) (q : Nat) (hq : q ≤ 900) (hm : markM M s n = (M', z)) (hB : MB q M) (hR0 : RV w cs0 M) : Calls Try.prog 33 #[.agg cs0, .int .i64 s, .int .i64 n] w (RMPost w M' z) := by
  obtain ⟨l, rfl⟩ : ∃ l : List Value, cs0 = l.toArray := ⟨cs0.toList, by simp⟩
  have HRV := Lib.hid hR0
  have HMB := Lib.hid hB
  have hl32 : l.length = 32 := by have := hR0.sz; simpa using this
  have HL := Lib.hid hl32
  have HQ := Lib.hid hq
  have hone : l.toArray.all (·.oneCell') = true := hR0.one
  have HO := Lib.hid hone
  obtain ⟨W0, hW0⟩ : ∃ W0, W0 = (w.alloc (.cells l.toArray 40)).alloc (.cells zR.toArray 40) := ⟨_, rfl⟩
  have hr1 : (w.alloc (.cells l.toArray 40)).heap.size = w.heap.size + 1 := by simp
  have BV : Hid (Blk W0 w.heap.size 40 l.toArray) := Lib.hid (by rw [hW0]; exact (Blk.new w _ _).alloc _)
  have BQ : Hid (Blk W0 (w.heap.size + 1) 40 zR.toArray) := Lib.hid (by rw [hW0, ← hr1]; exact Blk.new _ _ _)
  have K0 : Hid (Keep w.heap.size [] w W0) := Lib.hid (by rw [hW0]; exact ((Keep.refl _ _ w).alloc (Nat.le_refl _) _).alloc (by simp) _)
  clear hR0 hB hl32 hone hr1 hq
  cases hr : rightP s n with
  | false =>
    have e1 : (M, (1 : Int)) = (M', z) := by
      rw [← hm]; unfold markM; unfold rightP at hr; rw [hr]; rfl
    obtain ⟨rfl, rfl⟩ := Prod.mk.inj e1
    have HR := Lib.hid hr
    clear hm e1 hr
    go_enter Try.func33, Try.ntmps33
    go_upto_region 1 with fail
    change Code.wp _ _ _ _ ((w.alloc (.cells l.toArray 40)).alloc (.cells zR.toArray 40))
    rw [← hW0]
    clear hW0
    go_wp2_with fail
    refine (right_any _ s n false HR.out).mono ?_
    rintro e w' ⟨rfl, rfl⟩
    go_wp2_with (first
      | (refine wpList_load_mid rfl 40 (.tmp 3) rfl w.heap.size 0 rfl l _ BV.out.range Try.underlying40 rfl (by rw [infoRL]; simp [HL.out]) ?_)
      | (refine wpList_store_mid rfl 40 (.tmp 6) (.tmp 13) rfl (w.heap.size + 1) 0 l.toArray rfl rfl (BQ.out.there 0 _ (by simp [HL.out, zR])) (by rw [infoRL]; simp [HL.out]) HO.out ?_))
    refine bodyPost_ret (rm_results _ _ (w.heap.size + 1) l.toArray 1 rfl rfl (BQ.out.setAll (by simp [HL.out, zR])) (by simp [HL.out])) rfl ?_
    have KF := Keep.setCells (w := w) (B := w.heap.size) (S := []) (g := w.heap.size + 1) (.inl (Nat.le_succ _)) l 0 _ K0.out
    exact ⟨_, rfl, HRV.out.keep0 KF, KF⟩
  | true =>
    have hs := hr
    unfold rightP at hs
    rw [Bool.and_eq_true] at hs
    have hs1 := okS_iff.1 hs.1
    have hn1 := okN_iff.1 hs.2
    obtain ⟨i, rfl⟩ : ∃ i : Nat, s = (i : Int) := ⟨s.toNat, by omega⟩
    have hi16 : (i : Int) < 16 := hs1.2
    have hil : i < M.length := by rw [HRV.out.ml]; omega
    obtain ⟨x, hx⟩ : ∃ x, M[i]? = some x := ⟨_, List.getElem?_eq_getElem hil⟩
    have hsx := seenM_at hr hx
    have hmx : markM M (i : Int) n = if seenR x.n x.s n then (M, 9) else (M.set i (markMo x n), 0) := by
      unfold markM; rw [hs.1, hs.2, Int.toNat_natCast, hx]; rfl
    rw [hmx] at hm
    have HR := Lib.hid hr
    have HX := Lib.hid hx
    clear hmx hs hs1 hr hil hx
    cases hsn : seenR x.n x.s n with
    | true =>
      rw [hsn] at hm hsx
      obtain ⟨rfl, rfl⟩ := Prod.mk.inj (hm : (M, (9 : Int)) = (M', z))
      have HS := Lib.hid hsx
      clear hm hsx hsn
      go_enter Try.func33, Try.ntmps33
      go_upto_region 1 with fail
      change Code.wp _ _ _ _ ((w.alloc (.cells l.toArray 40)).alloc (.cells zR.toArray 40))
      rw [← hW0]
      clear hW0
      go_wp2_with fail
      refine (right_any _ (i : Int) n true HR.out).mono ?_
      rintro e w' ⟨rfl, rfl⟩
      go_wp2_with (refine wpList_load_mid rfl 40 (.tmp 3) rfl w.heap.size 0 rfl l _ BV.out.range Try.underlying40 rfl (by rw [infoRL]; simp [HL.out]) ?_)
      refine (rseen_any _ l.toArray M (i : Int) n true q (by have := HQ.out; omega) HS.out HMB.out (HRV.out.keep0 K0.out)).mono ?_
      rintro e w3 ⟨rfl, hk⟩
      have BV3 := Lib.hid (BV.out.keepS hk (by simp))
      have BQ3 := Lib.hid (BQ.out.keepS hk (by simp))
      have K3 := Lib.hid (K0.out.chain0 (Nat.le_refl _) hk)
      clear hk BV BQ K0
      go_wp2_with (first
        | (refine wpList_load_mid rfl 40 (.tmp 3) rfl w.heap.size 0 rfl l _ BV3.out.range Try.underlying40 rfl (by rw [infoRL]; simp [HL.out]) ?_)
        | (refine wpList_store_mid rfl 40 (.tmp 6) (.tmp 18) rfl (w.heap.size + 1) 0 l.toArray rfl rfl (BQ3.out.there 0 _ (by simp [HL.out, zR])) (by rw [infoRL]; simp [HL.out]) HO.out ?_))
      refine bodyPost_ret (rm_results _ _ (w.heap.size + 1) l.toArray 9 rfl rfl (BQ3.out.setAll (by simp [HL.out, zR])) (by simp [HL.out])) rfl ?_
      have KF := Keep.setCells (w := w) (B := w.heap.size) (S := []) (g := w.heap.size + 1) (.inl (Nat.le_succ _)) l 0 _ K3.out
      exact ⟨_, rfl, HRV.out.keep0 KF, KF⟩
    | false =>
      rw [hsn] at hm hsx
      obtain ⟨rfl, rfl⟩ := Prod.mk.inj (hm : (M.set i (markMo x n), (0 : Int)) = (M', z))
      have HS := Lib.hid hsx
      clear hm hsx hsn
      obtain ⟨i0, hi0', hz0, hz1, hz2⟩ := info_parts infoI64
      obtain ⟨A, m, c, e1, e2, hv, hmc, hcm, _⟩ := HRV.out.at_ i x HX.out
      have hml : m = x.s.length := by have := hv.1; simp [nums] at this; omega
      have hmq : m ≤ q := by have := (HMB.out x (List.mem_of_getElem? HX.out)).2; omega
      have hm1 : m ≤ 1000 := by have := HQ.out; omega
      have HV := Lib.hid hv
      have HE1 := Lib.hid e1
      have HE2 := Lib.hid e2
      have HML := Lib.hid hml
      have HMC := Lib.hid (And.intro hmc hcm)
      clear e1 e2 hv hml hmq hmc hcm
      obtain ⟨N', hN'⟩ : ∃ N', (if x.n < n then n else x.n) = N' := ⟨_, rfl⟩
      have HNi := Lib.hid hN'
      have HN' : Hid (max x.n n = N') := Lib.hid (by rw [← hN']; split <;> omega)
      clear hN'
      go_enter Try.func33, Try.ntmps33
      go_upto_region 1 with fail
      change Code.wp _ _ _ _ ((w.alloc (.cells l.toArray 40)).alloc (.cells zR.toArray 40))
      rw [← hW0]
      clear hW0
      go_wp2_with fail
      refine (right_any _ (i : Int) n true HR.out).mono ?_
      rintro e w' ⟨rfl, rfl⟩
      go_wp2_with (refine wpList_load_mid rfl 40 (.tmp 3) rfl w.heap.size 0 rfl l _ BV.out.range Try.underlying40 rfl (by rw [infoRL]; simp [HL.out]) ?_)
      refine (rseen_any _ l.toArray M (i : Int) n false q (by have := HQ.out; omega) HS.out HMB.out (HRV.out.keep0 K0.out)).mono ?_
      rintro e w3 ⟨rfl, hk⟩
      have BV3 := Lib.hid (BV.out.keepS hk (by simp))
      have BQ3 := Lib.hid (BQ.out.keepS hk (by simp))
      have K3 := Lib.hid (K0.out.chain0 (Nat.le_refl _) hk)
      clear hk BV BQ K0
      have v0 : w3.cell? ⟨w.heap.size, i * 2, none⟩ = some (.int .i64 x.n) := (BV3.out.cell _).trans HE1.out
      have v1 : w3.cell? ⟨w.heap.size, i * 2 + 1, none⟩ = some (.slice A m c) := (BV3.out.cell _).trans HE2.out
      go_wp2_with fail
      have k5 : Keep w3.heap.size [] w3 (w3.alloc (.cells #[.int .i64 x.n, .slice A m c] 38)) := (Keep.refl _ _ w3).alloc (Nat.le_refl _) _
      have BV5 := Lib.hid (BV3.out.keepS k5 (by simp))
      have BQ5 := Lib.hid (BQ3.out.keepS k5 (by simp))
      have K5 := Lib.hid (K3.out.chain0 (Nat.le_refl _) k5)
      have BX5 := Lib.hid (Blk.new w3 38 #[.int .i64 x.n, .slice A m c])
      clear k5 BV3 BQ3 K3 v0 v1
      obtain ⟨W1, hW1⟩ : ∃ W, W = w3.alloc (.cells #[.int .i64 x.n, .slice A m c] 38) := ⟨_, rfl⟩
      rw [← hW1] at BV5 BQ5 K5 BX5 ⊢
      obtain ⟨xb, hxb⟩ : ∃ b, w3.heap.size = b := ⟨_, rfl⟩
      rw [hxb] at BX5 ⊢
      clear hW1 hxb
      have KQ0 : Hid (Keep W1.heap.size [] W1 W1) := Lib.hid (Keep.refl _ _ _)
      have HV1 : Hid (Vw W1 A m 1 (nums x.s)) := Lib.hid (HV.out.keep0 K5.out)
      have RC : Hid (∀ F, Keep W1.heap.size [] W1 F → F.cell? ⟨xb, 0, none⟩ = some (.int .i64 x.n) ∧ F.cell? ⟨xb, 1, none⟩ = some (.slice A m c)) := Lib.hid (fun F k => ⟨(BX5.out.keepS k (by simp)).cell 0, (BX5.out.keepS k (by simp)).cell 1⟩)
      have c1 : W1.drew.cell? ⟨xb, 0, none⟩ = some (.int .i64 x.n) ∧ W1.drew.cell? ⟨xb, 1, none⟩ = some (.slice A m c) := RC.out _ (Keep.refl _ _ _).drew
      refine region_anyZ 14 (S := (fun w' => w'.cell? ⟨xb, 0, none⟩ = some (.int .i64 x.n) ∧ w'.cell? ⟨xb, 1, none⟩ = some (.slice A m c))) (by kernel_rfl) (by exact c1) (fun hHeld => ?_)
      refine anyZ.take (i := 0) (oi := { dst := some 22, op := Op.move (Operand.tmp 1), type := 3, pos := _, after := #[], guard := none }) (v := _) rfl (by kernel_rfl) (by kernel_rfl) (by kernel_rfl) (by kernel_rfl) (by kernel_rfl) (fun _ _ _ h => h) (Or.inl ⟨by rfl, by (intro wS hSw; (try dsimp only at hSw); go_simp; try with_reducible rfl)⟩) (by exact hHeld) ?_
      (try simp only [Act.put, List.setIfInBounds_toArray, List.set_cons_zero, List.set_cons_succ])
      refine anyZ.take (i := 1) (oi := { dst := some 23, op := Op.fieldAddr 38 (Operand.tmp 8) 0, type := 0, pos := _, after := #[], guard := none }) (v := _) rfl (by kernel_rfl) (by kernel_rfl) (by kernel_rfl) (by kernel_rfl) (by kernel_rfl) (fun _ _ _ h => h) (Or.inl ⟨by rfl, by (intro wS hSw; (try dsimp only at hSw); go_simp; try with_reducible rfl)⟩) (by exact hHeld) ?_
      (try simp only [Act.put, List.setIfInBounds_toArray, List.set_cons_zero, List.set_cons_succ])
      refine anyZ.take (i := 2) (oi := { dst := some 24, op := Op.load 3 (Operand.tmp 23), type := 3, pos := _, after := #[{ on := 1, ground := Ground.data }], guard := none }) (v := _) rfl (by kernel_rfl) (by kernel_rfl) (by kernel_rfl) (by kernel_rfl) (by kernel_rfl) (fun _ _ _ h => h) (Or.inl ⟨by rfl, by (intro wS hSw; (try dsimp only at hSw); go_simp; try with_reducible rfl)⟩) (by exact hHeld) ?_
      (try simp only [Act.put, List.setIfInBounds_toArray, List.set_cons_zero, List.set_cons_succ])
      refine anyZ.take (i := 3) (oi := { dst := some 25, op := Op.move (Operand.tmp 2), type := 3, pos := _, after := #[], guard := none }) (v := _) rfl (by kernel_rfl) (by kernel_rfl) (by kernel_rfl) (by kernel_rfl) (by kernel_rfl) (fun _ _ _ h => h) (Or.inl ⟨by rfl, by (intro wS hSw; (try dsimp only at hSw); go_simp; try with_reducible rfl)⟩) (by exact hHeld) ?_
      (try simp only [Act.put, List.setIfInBounds_toArray, List.set_cons_zero, List.set_cons_succ])
      refine anyZ.take (i := 4) (oi := { dst := some 26, op := Op.call { callee := Callee.builtin Builtin.max, args := #[Operand.tmp 24, Operand.tmp 25], argTypes := #[3, 3] }, type := 3, pos := _, after := #[{ on := 2, ground := Ground.data }, { on := 3, ground := Ground.data }], guard := none }) (v := _) rfl (by kernel_rfl) (by kernel_rfl) (by kernel_rfl) (by kernel_rfl) (by kernel_rfl) (fun _ _ _ h => h) (Or.inl ⟨by rfl, by (intro wS hSw; (try dsimp only at hSw); go_simp; try with_reducible rfl)⟩) (by exact hHeld) ?_
      (try simp only [Act.put, List.setIfInBounds_toArray, List.set_cons_zero, List.set_cons_succ])
      refine anyZ.take (i := 6) (oi := { dst := some 28, op := Op.fieldAddr 38 (Operand.tmp 8) 1, type := 0, pos := _, after := #[], guard := none }) (v := _) rfl (by kernel_rfl) (by kernel_rfl) (by kernel_rfl) (by kernel_rfl) (by kernel_rfl) (fun _ _ _ h => h) (Or.inl ⟨by rfl, by (intro wS hSw; (try dsimp only at hSw); go_simp; try with_reducible rfl)⟩) (by exact hHeld) ?_
      (try simp only [Act.put, List.setIfInBounds_toArray, List.set_cons_zero, List.set_cons_succ])
      refine anyZ.take (i := 7) (oi := { dst := some 29, op := Op.load 36 (Operand.tmp 28), type := 36, pos := _, after := #[{ on := 6, ground := Ground.data }], guard := none }) (v := _) rfl (by kernel_rfl) (by kernel_rfl) (by kernel_rfl) (by kernel_rfl) (by kernel_rfl) (fun _ _ _ h => h) (Or.inl ⟨by rfl, by (intro wS hSw; (try dsimp only at hSw); go_simp; try with_reducible rfl)⟩) (by exact hHeld) ?_
      (try simp only [Act.put, List.setIfInBounds_toArray, List.set_cons_zero, List.set_cons_succ])
      refine anyZ.take (i := 9) (oi := { dst := some 31, op := Op.move (Operand.tmp 2), type := 3, pos := _, after := #[], guard := none }) (v := _) rfl (by kernel_rfl) (by kernel_rfl) (by kernel_rfl) (by kernel_rfl) (by kernel_rfl) (fun _ _ _ h => h) (Or.inl ⟨by rfl, by (intro wS hSw; (try dsimp only at hSw); go_simp; try with_reducible rfl)⟩) (by exact hHeld) ?_
      (try simp only [Act.put, List.setIfInBounds_toArray, List.set_cons_zero, List.set_cons_succ])
      refine anyZ.ready (rs := [5, 10]) (by kernel_rfl) (by simp) ?_
      refine (AllZ.cons (o := { dst := some 27, op := Op.buildSlice 36 0 #[], type := 36, pos := _, after := #[], guard := none }) rfl (fun K hK => ?_) (AllZ.cons (o := { dst := some 32, op := Op.buildSlice 36 1 #[(0, Operand.tmp 31)], type := 36, pos := _, after := #[{ on := 9, ground := Ground.data }], guard := none }) rfl (fun K hK => ?_) AllZ.nil))
      · go_simp
        obtain ⟨V0, hV⟩ : ∃ V, V = (W1.alloc (.cells #[] 3)).drew := ⟨_, rfl⟩
        have KQV0 : Hid (Keep W1.heap.size [] W1 V0) := Lib.hid (by rw [hV]; exact (KQ0.out.alloc KQ0.out.size (.cells #[] 3)).drew)
        have S0 : Hid (Sl V0 3 1 (some ⟨W1.heap.size, 0, none⟩) 0 0 []) := Lib.hid (by rw [hV]; exact World.ownsRow_made W1 #[] 0 (Nat.zero_le _) (by unfold maxLen; omega) rfl)
        have HA0 : Hid (∀ y, y ∈ blks (some ⟨W1.heap.size, 0, none⟩) → W1.heap.size ≤ y) := Lib.hid (fun y hy => by rcases List.mem_singleton.1 hy with rfl; exact KQ0.out.size)
        rw [← hV]
        clear hV
        refine hK.out _ _ (fun _ => (by exact RC.out _ KQV0.out)) (fun hHeld => ?_)
        clear hK K
        replace hHeld := hHeld (by kernel_rfl)
        (try simp only [Act.put, List.setIfInBounds_toArray, List.set_cons_zero, List.set_cons_succ])
        refine anyZ.ready (rs := [8, 10]) (by kernel_rfl) (by simp) ?_
        refine (AllZ.cons (o := { dst := some 30, op := Op.call { callee := Callee.builtin Builtin.append, args := #[Operand.tmp 27, Operand.tmp 29], argTypes := #[36, 36] }, type := 36, pos := _, after := #[{ on := 5, ground := Ground.data }, { on := 7, ground := Ground.data }], guard := none }) rfl (fun K hK => ?_) (AllZ.cons (o := { dst := some 32, op := Op.buildSlice 36 1 #[(0, Operand.tmp 31)], type := 36, pos := _, after := #[{ on := 9, ground := Ground.data }], guard := none }) rfl (fun K hK => ?_) AllZ.nil))
        · refine step_appV _ (by rfl) (.tmp 27) (.tmp 29) 36 (by rfl) 3 i0 _ 1 8 Try.underlying36 hi0' hz0 hz1 hz2 rfl (by omega) (some ⟨W1.heap.size, 0, none⟩) 0 0 [] (by rfl) (by exact S0.out) A m c (nums x.s) (by rfl) (by exact HV1.out.keep0 KQV0.out) (num_one _) (by omega) (by omega) ?_
          intro A2 c2 w2 hs3 hk3 hb3
          simp only [Nat.zero_add, List.nil_append] at hs3 ⊢
          have S2 := Lib.hid hs3
          have KQ2 : Hid (Keep W1.heap.size [] W1 w2) := Lib.hid (KQV0.out.chain (Nat.le_refl _) hk3 HA0.out)
          have HA2 : Hid (∀ y, y ∈ blks A2 → W1.heap.size ≤ y) := Lib.hid (fun y hy => by have := KQV0.out.size; rcases hb3 y hy with h | h; exact HA0.out y h; omega)
          clear hs3 hk3 hb3
          refine hK.out _ _ (fun _ => (by exact RC.out _ KQ2.out)) (fun hHeld => ?_)
          clear hK K
          replace hHeld := hHeld (by kernel_rfl)
          (try simp only [Act.put, List.setIfInBounds_toArray, List.set_cons_zero, List.set_cons_succ])
          refine anyZ.ready (rs := [10]) (by kernel_rfl) (by simp) ?_
          refine (AllZ.cons (o := { dst := some 32, op := Op.buildSlice 36 1 #[(0, Operand.tmp 31)], type := 36, pos := _, after := #[{ on := 9, ground := Ground.data }], guard := none }) rfl (fun K hK => ?_) AllZ.nil)
          go_simp
          obtain ⟨V5, hV⟩ : ∃ V, V = (w2.alloc (.cells #[.int .i64 n] 3)) := ⟨_, rfl⟩
          have KQV5 : Hid (Keep W1.heap.size [] W1 V5) := Lib.hid (by rw [hV]; exact (KQ2.out.alloc KQ2.out.size (.cells #[.int .i64 n] 3)))
          have B5 : Hid (Blk V5 w2.heap.size 3 #[.int .i64 n]) := Lib.hid (by rw [hV]; exact Blk.new w2 _ _)
          have S5 : Hid (Sl V5 3 1 A2 m c2 (nums x.s)) := Lib.hid (by rw [hV]; exact S2.out.alloc _)
          have N5 : Hid (∀ y, y ∈ blks A2 → y ≠ w2.heap.size) := Lib.hid (fun y hy => by have := S2.out.blk hy; omega)
          rw [← hV]
          clear hV
          refine hK.out _ _ (fun _ => (by exact RC.out _ KQV5.out)) (fun hHeld => ?_)
          clear hK K
          replace hHeld := hHeld (by kernel_rfl)
          (try simp only [Act.put, List.setIfInBounds_toArray, List.set_cons_zero, List.set_cons_succ])
          refine anyZ.ready (rs := [11]) (by kernel_rfl) (by simp) ?_
          refine (AllZ.cons (o := { dst := some 33, op := Op.call { callee := Callee.builtin Builtin.append, args := #[Operand.tmp 30, Operand.tmp 32], argTypes := #[36, 36] }, type := 36, pos := _, after := #[{ on := 8, ground := Ground.data }, { on := 10, ground := Ground.data }, { on := 8, ground := Ground.chain }], guard := none }) rfl (fun K hK => ?_) AllZ.nil)
          refine step_app1 _ (by rfl) (.tmp 30) (.tmp 32) 36 (by rfl) 3 i0 _ 1 8 Try.underlying36 hi0' hz0 hz1 hz2 rfl (by omega) A2 m c2 (nums x.s) (by rfl) (by exact S5.out) _ _ _ (by rfl) (by exact B5.out) rfl rfl (by omega) (by omega) ?_
          intro A3 c3 w6 hs3 hk3 hb3
          have S3 : Hid (Sl w6 3 1 A3 (m + 1) c3 (nums (x.s ++ [n]))) := Lib.hid (by have e : nums (x.s ++ [n]) = nums x.s ++ [.int .i64 n] := (by simp [nums]); rw [e]; exact hs3)
          have KQ3 : Hid (Keep W1.heap.size [] W1 w6) := Lib.hid (KQV5.out.chain (Nat.le_refl _) hk3 HA2.out)
          have HA3 : Hid (∀ y, y ∈ blks A3 → W1.heap.size ≤ y) := Lib.hid (fun y hy => by have := KQV5.out.size; rcases hb3 y hy with h | h; exact HA2.out y h; omega)
          have BV6 := Lib.hid (BV5.out.keepS KQ3.out (by simp))
          have g0 := BV6.out.frozen (i * 2)
          have g1 := BV6.out.frozen (i * 2 + 1)
          have v0 : w6.cell? ⟨w.heap.size, i * 2, none⟩ = some (.int .i64 x.n) := (BV6.out.cell _).trans HE1.out
          have v1 : w6.cell? ⟨w.heap.size, i * 2 + 1, none⟩ = some (.slice A m c) := (BV6.out.cell _).trans HE2.out
          clear hs3 hk3 hb3
          refine hK.out _ _ (fun _ => (by exact RC.out _ KQ3.out)) (fun hHeld => ?_)
          clear hK K
          replace hHeld := hHeld (by kernel_rfl)
          (try simp only [Act.put, List.setIfInBounds_toArray, List.set_cons_zero, List.set_cons_succ])
          refine anyZ.take (i := 12) (oi := { dst := some 34, op := Op.build 38 #[(0, Operand.tmp 26), (1, Operand.tmp 33)], type := 38, pos := _, after := #[{ on := 4, ground := Ground.data }, { on := 11, ground := Ground.data }], guard := none }) (v := _) rfl (by kernel_rfl) (by kernel_rfl) (by kernel_rfl) (by kernel_rfl) (by kernel_rfl) (fun _ _ _ h => h) (Or.inl ⟨by rfl, by (intro wS hSw; (try dsimp only at hSw); go_simp; try with_reducible rfl)⟩) (by exact hHeld) ?_
          (try simp only [Act.put, List.setIfInBounds_toArray, List.set_cons_zero, List.set_cons_succ])
          refine anyZ.take (i := 13) (oi := { dst := some 35, op := Op.indexAddr 40 (Operand.tmp 3) (Operand.tmp 22), type := 0, pos := _, after := #[{ on := 0, ground := Ground.data }, { on := 0, ground := Ground.phase }, { on := 1, ground := Ground.phase }, { on := 2, ground := Ground.phase }, { on := 3, ground := Ground.phase }, { on := 4, ground := Ground.phase }, { on := 5, ground := Ground.phase }, { on := 6, ground := Ground.phase }, { on := 7, ground := Ground.phase }, { on := 8, ground := Ground.phase }, { on := 9, ground := Ground.phase }, { on := 10, ground := Ground.phase }, { on := 11, ground := Ground.phase }, { on := 12, ground := Ground.phase }], guard := none }) (v := _) rfl (by kernel_rfl) (by kernel_rfl) (by kernel_rfl) (by kernel_rfl) (by kernel_rfl) (fun _ _ _ h => h) (Or.inl ⟨by rfl, by (intro wS hSw; (try dsimp only at hSw); go_simp; try with_reducible rfl)⟩) (by exact hHeld) ?_
          (try simp only [Act.put, List.setIfInBounds_toArray, List.set_cons_zero, List.set_cons_succ])
          refine anyZ.ready (rs := [14]) (by kernel_rfl) (by simp) ?_
          refine (AllZ.cons (o := { dst := none, op := Op.store 38 (Operand.tmp 35) (Operand.tmp 34), type := 0, pos := _, after := #[{ on := 13, ground := Ground.data }, { on := 12, ground := Ground.data }, { on := 11, ground := Ground.chain }, { on := 0, ground := Ground.phase }, { on := 1, ground := Ground.phase }, { on := 2, ground := Ground.phase }, { on := 3, ground := Ground.phase }, { on := 4, ground := Ground.phase }, { on := 5, ground := Ground.phase }, { on := 6, ground := Ground.phase }, { on := 7, ground := Ground.phase }, { on := 8, ground := Ground.phase }, { on := 9, ground := Ground.phase }, { on := 10, ground := Ground.phase }, { on := 11, ground := Ground.phase }, { on := 12, ground := Ground.phase }], guard := none }) rfl (fun K hK => ?_) AllZ.nil)
          go_simp
          refine hK.out _ _ (fun h => absurd h (by decide)) (fun hHeld => ?_)
          clear hK K
          (try simp only [Act.put, List.setIfInBounds_toArray, List.set_cons_zero, List.set_cons_succ])
          refine anyZ.done (by kernel_rfl) ?_ _
          clear hHeld
          rw [HNi.out]
          have BV7 : Hid (Blk ((w6.setCell ⟨w.heap.size, i * 2, none⟩ (.int .i64 N')).setCell ⟨w.heap.size, i * 2 + 1, none⟩ (.slice A3 (m + 1) c3)) w.heap.size 40 ((l.toArray.setIfInBounds (i * 2) (.int .i64 N')).setIfInBounds (i * 2 + 1) (.slice A3 (m + 1) c3))) := Lib.hid ((BV6.out.set_ _ _).set_ _ _)
          have k7 : Keep w6.heap.size [w.heap.size] w6 ((w6.setCell ⟨w.heap.size, i * 2, none⟩ (.int .i64 N')).setCell ⟨w.heap.size, i * 2 + 1, none⟩ (.slice A3 (m + 1) c3)) := ((Keep.refl _ _ w6).setS (by simp)).setS (by simp)
          have BQ7 := Lib.hid ((BQ5.out.keepS KQ3.out (by simp)).keepS k7 (by simp))
          have K7 := Lib.hid ((K5.out.chain0 (Nat.le_refl _) KQ3.out).chain1 (Nat.le_refl _) k7 (Nat.le_refl _))
          have VN7 := Lib.hid (S3.out.keepS k7 (fun y hy => by have h1 := HA3.out y hy; have h2 := BV5.out.lt; simp; omega))
          have HC3 := Lib.hid (slcap S3.out)
          clear k7 BV6 g0 g1 v0 v1 c1
          obtain ⟨W7, hW7⟩ : ∃ W, W = (w6.setCell ⟨w.heap.size, i * 2, none⟩ (.int .i64 N')).setCell ⟨w.heap.size, i * 2 + 1, none⟩ (.slice A3 (m + 1) c3) := ⟨_, rfl⟩
          rw [← hW7] at BV7 BQ7 K7 VN7 ⊢
          clear hW7
          obtain ⟨l', hl'⟩ : ∃ l' : List Value, (l.toArray.setIfInBounds (i * 2) (.int .i64 N')).setIfInBounds (i * 2 + 1) (.slice A3 (m + 1) c3) = l'.toArray := ⟨_, (Array.toArray_toList (xs := _)).symm⟩
          have HF : Hid (∀ F, Keep w.heap.size [] w F → Sl F 3 1 A3 (m + 1) c3 (nums (x.s ++ [n])) → RV F l'.toArray (M.set i (markMo x n))) := Lib.hid (fun F k h => by
            have := rv_set (y := markMo x n) HRV.out HX.out k h
            have e : (markMo x n).n = N' := HN'.out
            rw [e, hl'] at this
            exact this)
          have HL' : Hid (l'.length = 32) := Lib.hid (by have h1 := congrArg Array.size hl'; have h2 := HL.out; simp at h1; omega)
          have HO' : Hid (l'.toArray.all (·.oneCell') = true) := Lib.hid (by rw [← hl']; exact all_set _ _ _ (all_set _ _ _ HO.out rfl) rfl)
          rw [hl'] at BV7
          clear hl'
          go_wp2_with (first
            | (refine wpList_load_mid rfl 40 (.tmp 3) rfl w.heap.size 0 rfl l' _ BV7.out.range Try.underlying40 rfl (by rw [infoRL]; simp [HL'.out]) ?_)
            | (refine wpList_store_mid rfl 40 (.tmp 6) (.tmp 36) rfl (w.heap.size + 1) 0 l'.toArray rfl rfl (BQ7.out.there 0 _ (by simp [HL'.out, zR])) (by rw [infoRL]; simp [HL'.out]) HO'.out ?_))
          refine bodyPost_ret (rm_results _ _ (w.heap.size + 1) l'.toArray 0 rfl rfl (BQ7.out.setAll (by simp [HL'.out, zR])) (by simp [HL'.out])) rfl ?_
          have KF := Keep.setCells (w := w) (B := w.heap.size) (S := []) (g := w.heap.size + 1) (.inl (Nat.le_succ _)) l' 0 _ K7.out
          have KG := Keep.setCells (w := W7) (B := W7.heap.size) (S := [w.heap.size + 1]) (g := w.heap.size + 1) (.inr (by simp)) l' 0 _ (Keep.refl _ _ _)
          exact ⟨_, rfl, HF.out _ KF (VN7.out.keepS KG (fun y hy => by have h1 := HA3.out y hy; have h2 := BQ5.out.lt; simp; omega)), KF⟩
        · go_simp
          obtain ⟨V5, hV⟩ : ∃ V, V = (V0.alloc (.cells #[.int .i64 n] 3)) := ⟨_, rfl⟩
          have KQV5 : Hid (Keep W1.heap.size [] W1 V5) := Lib.hid (by rw [hV]; exact (KQV0.out.alloc KQV0.out.size (.cells #[.int .i64 n] 3)))
          have B5 : Hid (Blk V5 V0.heap.size 3 #[.int .i64 n]) := Lib.hid (by rw [hV]; exact Blk.new V0 _ _)
          have S5 : Hid (Sl V5 3 1 (some ⟨W1.heap.size, 0, none⟩) 0 0 []) := Lib.hid (by rw [hV]; exact S0.out.alloc _)
          have N5 : Hid (∀ y, y ∈ blks (some ⟨W1.heap.size, 0, none⟩) → y ≠ V0.heap.size) := Lib.hid (fun y hy => by have := S0.out.blk hy; omega)
          rw [← hV]
          clear hV
          refine hK.out _ _ (fun _ => (by exact RC.out _ KQV5.out)) (fun hHeld => ?_)
          clear hK K
          replace hHeld := hHeld (by kernel_rfl)
          (try simp only [Act.put, List.setIfInBounds_toArray, List.set_cons_zero, List.set_cons_succ])
          refine anyZ.ready (rs := [8]) (by kernel_rfl) (by simp) ?_
          refine (AllZ.cons (o := { dst := some 30, op := Op.call { callee := Callee.builtin Builtin.append, args := #[Operand.tmp 27, Operand.tmp 29], argTypes := #[36, 36] }, type := 36, pos := _, after := #[{ on := 5, ground := Ground.data }, { on := 7, ground := Ground.data }], guard := none }) rfl (fun K hK => ?_) AllZ.nil)
          refine step_appV _ (by rfl) (.tmp 27) (.tmp 29) 36 (by rfl) 3 i0 _ 1 8 Try.underlying36 hi0' hz0 hz1 hz2 rfl (by omega) (some ⟨W1.heap.size, 0, none⟩) 0 0 [] (by rfl) (by exact S5.out) A m c (nums x.s) (by rfl) (by exact HV1.out.keep0 KQV5.out) (num_one _) (by omega) (by omega) ?_
          intro A2 c2 w2 hs3 hk3 hb3
          simp only [Nat.zero_add, List.nil_append] at hs3 ⊢
          have S2 := Lib.hid hs3
          have KQ2 : Hid (Keep W1.heap.size [] W1 w2) := Lib.hid (KQV5.out.chain (Nat.le_refl _) hk3 HA0.out)
          have HA2 : Hid (∀ y, y ∈ blks A2 → W1.heap.size ≤ y) := Lib.hid (fun y hy => by have := KQV5.out.size; rcases hb3 y hy with h | h; exact HA0.out y h; omega)
          have B2 := Lib.hid (B5.out.keepS hk3 (fun h => N5.out _ h rfl))
          have N2 : Hid (∀ y, y ∈ blks A2 → y ≠ V0.heap.size) := Lib.hid (fun y hy => by have := B5.out.lt; rcases hb3 y hy with h | h; exact N5.out y h; omega)
          clear hs3 hk3 hb3
          refine hK.out _ _ (fun _ => (by exact RC.out _ KQ2.out)) (fun hHeld => ?_)
          clear hK K
          replace hHeld := hHeld (by kernel_rfl)
          (try simp only [Act.put, List.setIfInBounds_toArray, List.set_cons_zero, List.set_cons_succ])
          refine anyZ.ready (rs := [11]) (by kernel_rfl) (by simp) ?_
          refine (AllZ.cons (o := { dst := some 33, op := Op.call { callee := Callee.builtin Builtin.append, args := #[Operand.tmp 30, Operand.tmp 32], argTypes := #[36, 36] }, type := 36, pos := _, after := #[{ on := 8, ground := Ground.data }, { on := 10, ground := Ground.data }, { on := 8, ground := Ground.chain }], guard := none }) rfl (fun K hK => ?_) AllZ.nil)
          refine step_app1 _ (by rfl) (.tmp 30) (.tmp 32) 36 (by rfl) 3 i0 _ 1 8 Try.underlying36 hi0' hz0 hz1 hz2 rfl (by omega) A2 m c2 (nums x.s) (by rfl) (by exact S2.out) _ _ _ (by rfl) (by exact B2.out) rfl rfl (by omega) (by omega) ?_
          intro A3 c3 w6 hs3 hk3 hb3
          have S3 : Hid (Sl w6 3 1 A3 (m + 1) c3 (nums (x.s ++ [n]))) := Lib.hid (by have e : nums (x.s ++ [n]) = nums x.s ++ [.int .i64 n] := (by simp [nums]); rw [e]; exact hs3)
          have KQ3 : Hid (Keep W1.heap.size [] W1 w6) := Lib.hid (KQ2.out.chain (Nat.le_refl _) hk3 HA2.out)
          have HA3 : Hid (∀ y, y ∈ blks A3 → W1.heap.size ≤ y) := Lib.hid (fun y hy => by have := KQ2.out.size; rcases hb3 y hy with h | h; exact HA2.out y h; omega)
          have BV6 := Lib.hid (BV5.out.keepS KQ3.out (by simp))
          have g0 := BV6.out.frozen (i * 2)
          have g1 := BV6.out.frozen (i * 2 + 1)
          have v0 : w6.cell? ⟨w.heap.size, i * 2, none⟩ = some (.int .i64 x.n) := (BV6.out.cell _).trans HE1.out
          have v1 : w6.cell? ⟨w.heap.size, i * 2 + 1, none⟩ = some (.slice A m c) := (BV6.out.cell _).trans HE2.out
          clear hs3 hk3 hb3
          refine hK.out _ _ (fun _ => (by exact RC.out _ KQ3.out)) (fun hHeld => ?_)
          clear hK K
          replace hHeld := hHeld (by kernel_rfl)
          (try simp only [Act.put, List.setIfInBounds_toArray, List.set_cons_zero, List.set_cons_succ])
          refine anyZ.take (i := 12) (oi := { dst := some 34, op := Op.build 38 #[(0, Operand.tmp 26), (1, Operand.tmp 33)], type := 38, pos := _, after := #[{ on := 4, ground := Ground.data }, { on := 11, ground := Ground.data }], guard := none }) (v := _) rfl (by kernel_rfl) (by kernel_rfl) (by kernel_rfl) (by kernel_rfl) (by kernel_rfl) (fun _ _ _ h => h) (Or.inl ⟨by rfl, by (intro wS hSw; (try dsimp only at hSw); go_simp; try with_reducible rfl)⟩) (by exact hHeld) ?_
          (try simp only [Act.put, List.setIfInBounds_toArray, List.set_cons_zero, List.set_cons_succ])
          refine anyZ.take (i := 13) (oi := { dst := some 35, op := Op.indexAddr 40 (Operand.tmp 3) (Operand.tmp 22), type := 0, pos := _, after := #[{ on := 0, ground := Ground.data }, { on := 0, ground := Ground.phase }, { on := 1, ground := Ground.phase }, { on := 2, ground := Ground.phase }, { on := 3, ground := Ground.phase }, { on := 4, ground := Ground.phase }, { on := 5, ground := Ground.phase }, { on := 6, ground := Ground.phase }, { on := 7, ground := Ground.phase }, { on := 8, ground := Ground.phase }, { on := 9, ground := Ground.phase }, { on := 10, ground := Ground.phase }, { on := 11, ground := Ground.phase }, { on := 12, ground := Ground.phase }], guard := none }) (v := _) rfl (by kernel_rfl) (by kernel_rfl) (by kernel_rfl) (by kernel_rfl) (by kernel_rfl) (fun _ _ _ h => h) (Or.inl ⟨by rfl, by (intro wS hSw; (try dsimp only at hSw); go_simp; try with_reducible rfl)⟩) (by exact hHeld) ?_
          (try simp only [Act.put, List.setIfInBounds_toArray, List.set_cons_zero, List.set_cons_succ])
          refine anyZ.ready (rs := [14]) (by kernel_rfl) (by simp) ?_
          refine (AllZ.cons (o := { dst := none, op := Op.store 38 (Operand.tmp 35) (Operand.tmp 34), type := 0, pos := _, after := #[{ on := 13, ground := Ground.data }, { on := 12, ground := Ground.data }, { on := 11, ground := Ground.chain }, { on := 0, ground := Ground.phase }, { on := 1, ground := Ground.phase }, { on := 2, ground := Ground.phase }, { on := 3, ground := Ground.phase }, { on := 4, ground := Ground.phase }, { on := 5, ground := Ground.phase }, { on := 6, ground := Ground.phase }, { on := 7, ground := Ground.phase }, { on := 8, ground := Ground.phase }, { on := 9, ground := Ground.phase }, { on := 10, ground := Ground.phase }, { on := 11, ground := Ground.phase }, { on := 12, ground := Ground.phase }], guard := none }) rfl (fun K hK => ?_) AllZ.nil)
          go_simp
          refine hK.out _ _ (fun h => absurd h (by decide)) (fun hHeld => ?_)
          clear hK K
          (try simp only [Act.put, List.setIfInBounds_toArray, List.set_cons_zero, List.set_cons_succ])
          refine anyZ.done (by kernel_rfl) ?_ _
          clear hHeld
          rw [HNi.out]
          have BV7 : Hid (Blk ((w6.setCell ⟨w.heap.size, i * 2, none⟩ (.int .i64 N')).setCell ⟨w.heap.size, i * 2 + 1, none⟩ (.slice A3 (m + 1) c3)) w.heap.size 40 ((l.toArray.setIfInBounds (i * 2) (.int .i64 N')).setIfInBounds (i * 2 + 1) (.slice A3 (m + 1) c3))) := Lib.hid ((BV6.out.set_ _ _).set_ _ _)
          have k7 : Keep w6.heap.size [w.heap.size] w6 ((w6.setCell ⟨w.heap.size, i * 2, none⟩ (.int .i64 N')).setCell ⟨w.heap.size, i * 2 + 1, none⟩ (.slice A3 (m + 1) c3)) := ((Keep.refl _ _ w6).setS (by simp)).setS (by simp)
          have BQ7 := Lib.hid ((BQ5.out.keepS KQ3.out (by simp)).keepS k7 (by simp))
          have K7 := Lib.hid ((K5.out.chain0 (Nat.le_refl _) KQ3.out).chain1 (Nat.le_refl _) k7 (Nat.le_refl _))
          have VN7 := Lib.hid (S3.out.keepS k7 (fun y hy => by have h1 := HA3.out y hy; have h2 := BV5.out.lt; simp; omega))
          have HC3 := Lib.hid (slcap S3.out)
          clear k7 BV6 g0 g1 v0 v1 c1
          obtain ⟨W7, hW7⟩ : ∃ W, W = (w6.setCell ⟨w.heap.size, i * 2, none⟩ (.int .i64 N')).setCell ⟨w.heap.size, i * 2 + 1, none⟩ (.slice A3 (m + 1) c3) := ⟨_, rfl⟩
          rw [← hW7] at BV7 BQ7 K7 VN7 ⊢
          clear hW7
          obtain ⟨l', hl'⟩ : ∃ l' : List Value, (l.toArray.setIfInBounds (i * 2) (.int .i64 N')).setIfInBounds (i * 2 + 1) (.slice A3 (m + 1) c3) = l'.toArray := ⟨_, (Array.toArray_toList (xs := _)).symm⟩
          have HF : Hid (∀ F, Keep w.heap.size [] w F → Sl F 3 1 A3 (m + 1) c3 (nums (x.s ++ [n])) → RV F l'.toArray (M.set i (markMo x n))) := Lib.hid (fun F k h => by
            have := rv_set (y := markMo x n) HRV.out HX.out k h
            have e : (markMo x n).n = N' := HN'.out
            rw [e, hl'] at this
            exact this)
          have HL' : Hid (l'.length = 32) := Lib.hid (by have h1 := congrArg Array.size hl'; have h2 := HL.out; simp at h1; omega)
          have HO' : Hid (l'.toArray.all (·.oneCell') = true) := Lib.hid (by rw [← hl']; exact all_set _ _ _ (all_set _ _ _ HO.out rfl) rfl)
          rw [hl'] at BV7
          clear hl'
          go_wp2_with (first
            | (refine wpList_load_mid rfl 40 (.tmp 3) rfl w.heap.size 0 rfl l' _ BV7.out.range Try.underlying40 rfl (by rw [infoRL]; simp [HL'.out]) ?_)
            | (refine wpList_store_mid rfl 40 (.tmp 6) (.tmp 36) rfl (w.heap.size + 1) 0 l'.toArray rfl rfl (BQ7.out.there 0 _ (by simp [HL'.out, zR])) (by rw [infoRL]; simp [HL'.out]) HO'.out ?_))
          refine bodyPost_ret (rm_results _ _ (w.heap.size + 1) l'.toArray 0 rfl rfl (BQ7.out.setAll (by simp [HL'.out, zR])) (by simp [HL'.out])) rfl ?_
          have KF := Keep.setCells (w := w) (B := w.heap.size) (S := []) (g := w.heap.size + 1) (.inl (Nat.le_succ _)) l' 0 _ K7.out
          have KG := Keep.setCells (w := W7) (B := W7.heap.size) (S := [w.heap.size + 1]) (g := w.heap.size + 1) (.inr (by simp)) l' 0 _ (Keep.refl _ _ _)
          exact ⟨_, rfl, HF.out _ KF (VN7.out.keepS KG (fun y hy => by have h1 := HA3.out y hy; have h2 := BQ5.out.lt; simp; omega)), KF⟩
      · go_simp
        obtain ⟨V5, hV⟩ : ∃ V, V = (W1.alloc (.cells #[.int .i64 n] 3)).drew := ⟨_, rfl⟩
        have KQV5 : Hid (Keep W1.heap.size [] W1 V5) := Lib.hid (by rw [hV]; exact (KQ0.out.alloc KQ0.out.size (.cells #[.int .i64 n] 3)).drew)
        have B5 : Hid (Blk V5 W1.heap.size 3 #[.int .i64 n]) := Lib.hid (by rw [hV]; exact Blk.new W1 _ _)
        rw [← hV]
        clear hV
        refine hK.out _ _ (fun _ => (by exact RC.out _ KQV5.out)) (fun hHeld => ?_)
        clear hK K
        replace hHeld := hHeld (by kernel_rfl)
        (try simp only [Act.put, List.setIfInBounds_toArray, List.set_cons_zero, List.set_cons_succ])
        refine anyZ.ready (rs := [5]) (by kernel_rfl) (by simp) ?_
        refine (AllZ.cons (o := { dst := some 27, op := Op.buildSlice 36 0 #[], type := 36, pos := _, after := #[], guard := none }) rfl (fun K hK => ?_) AllZ.nil)
        go_simp
        obtain ⟨V0, hV⟩ : ∃ V, V = (V5.alloc (.cells #[] 3)) := ⟨_, rfl⟩
        have KQV0 : Hid (Keep W1.heap.size [] W1 V0) := Lib.hid (by rw [hV]; exact (KQV5.out.alloc KQV5.out.size (.cells #[] 3)))
        have S0 : Hid (Sl V0 3 1 (some ⟨V5.heap.size, 0, none⟩) 0 0 []) := Lib.hid (by rw [hV]; exact World.ownsRow_made V5 #[] 0 (Nat.zero_le _) (by unfold maxLen; omega) rfl)
        have HA0 : Hid (∀ y, y ∈ blks (some ⟨V5.heap.size, 0, none⟩) → W1.heap.size ≤ y) := Lib.hid (fun y hy => by rcases List.mem_singleton.1 hy with rfl; exact KQV5.out.size)
        have B0 : Hid (Blk V0 W1.heap.size 3 #[.int .i64 n]) := Lib.hid (by rw [hV]; exact B5.out.alloc _)
        have N0 : Hid (∀ y, y ∈ blks (some ⟨V5.heap.size, 0, none⟩) → y ≠ W1.heap.size) := Lib.hid (fun y hy => by have hy' : y = V5.heap.size := (by simpa [blks] using hy); have := B5.out.lt; omega)
        rw [← hV]
        clear hV
        refine hK.out _ _ (fun _ => (by exact RC.out _ KQV0.out)) (fun hHeld => ?_)
        clear hK K
        replace hHeld := hHeld (by kernel_rfl)
        (try simp only [Act.put, List.setIfInBounds_toArray, List.set_cons_zero, List.set_cons_succ])
        refine anyZ.ready (rs := [8]) (by kernel_rfl) (by simp) ?_
        refine (AllZ.cons (o := { dst := some 30, op := Op.call { callee := Callee.builtin Builtin.append, args := #[Operand.tmp 27, Operand.tmp 29], argTypes := #[36, 36] }, type := 36, pos := _, after := #[{ on := 5, ground := Ground.data }, { on := 7, ground := Ground.data }], guard := none }) rfl (fun K hK => ?_) AllZ.nil)
        refine step_appV _ (by rfl) (.tmp 27) (.tmp 29) 36 (by rfl) 3 i0 _ 1 8 Try.underlying36 hi0' hz0 hz1 hz2 rfl (by omega) (some ⟨V5.heap.size, 0, none⟩) 0 0 [] (by rfl) (by exact S0.out) A m c (nums x.s) (by rfl) (by exact HV1.out.keep0 KQV0.out) (num_one _) (by omega) (by omega) ?_
        intro A2 c2 w2 hs3 hk3 hb3
        simp only [Nat.zero_add, List.nil_append] at hs3 ⊢
        have S2 := Lib.hid hs3
        have KQ2 : Hid (Keep W1.heap.size [] W1 w2) := Lib.hid (KQV0.out.chain (Nat.le_refl _) hk3 HA0.out)
        have HA2 : Hid (∀ y, y ∈ blks A2 → W1.heap.size ≤ y) := Lib.hid (fun y hy => by have := KQV0.out.size; rcases hb3 y hy with h | h; exact HA0.out y h; omega)
        have B2 := Lib.hid (B0.out.keepS hk3 (fun h => N0.out _ h rfl))
        have N2 : Hid (∀ y, y ∈ blks A2 → y ≠ W1.heap.size) := Lib.hid (fun y hy => by have := B0.out.lt; rcases hb3 y hy with h | h; exact N0.out y h; omega)
        clear hs3 hk3 hb3
        refine hK.out _ _ (fun _ => (by exact RC.out _ KQ2.out)) (fun hHeld => ?_)
        clear hK K
        replace hHeld := hHeld (by kernel_rfl)
        (try simp only [Act.put, List.setIfInBounds_toArray, List.set_cons_zero, List.set_cons_succ])
        refine anyZ.ready (rs := [11]) (by kernel_rfl) (by simp) ?_
        refine (AllZ.cons (o := { dst := some 33, op := Op.call { callee := Callee.builtin Builtin.append, args := #[Operand.tmp 30, Operand.tmp 32], argTypes := #[36, 36] }, type := 36, pos := _, after := #[{ on := 8, ground := Ground.data }, { on := 10, ground := Ground.data }, { on := 8, ground := Ground.chain }], guard := none }) rfl (fun K hK => ?_) AllZ.nil)
        refine step_app1 _ (by rfl) (.tmp 30) (.tmp 32) 36 (by rfl) 3 i0 _ 1 8 Try.underlying36 hi0' hz0 hz1 hz2 rfl (by omega) A2 m c2 (nums x.s) (by rfl) (by exact S2.out) _ _ _ (by rfl) (by exact B2.out) rfl rfl (by omega) (by omega) ?_
        intro A3 c3 w6 hs3 hk3 hb3
        have S3 : Hid (Sl w6 3 1 A3 (m + 1) c3 (nums (x.s ++ [n]))) := Lib.hid (by have e : nums (x.s ++ [n]) = nums x.s ++ [.int .i64 n] := (by simp [nums]); rw [e]; exact hs3)
        have KQ3 : Hid (Keep W1.heap.size [] W1 w6) := Lib.hid (KQ2.out.chain (Nat.le_refl _) hk3 HA2.out)
        have HA3 : Hid (∀ y, y ∈ blks A3 → W1.heap.size ≤ y) := Lib.hid (fun y hy => by have := KQ2.out.size; rcases hb3 y hy with h | h; exact HA2.out y h; omega)
        have BV6 := Lib.hid (BV5.out.keepS KQ3.out (by simp))
        have g0 := BV6.out.frozen (i * 2)
        have g1 := BV6.out.frozen (i * 2 + 1)
        have v0 : w6.cell? ⟨w.heap.size, i * 2, none⟩ = some (.int .i64 x.n) := (BV6.out.cell _).trans HE1.out
        have v1 : w6.cell? ⟨w.heap.size, i * 2 + 1, none⟩ = some (.slice A m c) := (BV6.out.cell _).trans HE2.out
        clear hs3 hk3 hb3
        refine hK.out _ _ (fun _ => (by exact RC.out _ KQ3.out)) (fun hHeld => ?_)
        clear hK K
        replace hHeld := hHeld (by kernel_rfl)
        (try simp only [Act.put, List.setIfInBounds_toArray, List.set_cons_zero, List.set_cons_succ])
        refine anyZ.take (i := 12) (oi := { dst := some 34, op := Op.build 38 #[(0, Operand.tmp 26), (1, Operand.tmp 33)], type := 38, pos := _, after := #[{ on := 4, ground := Ground.data }, { on := 11, ground := Ground.data }], guard := none }) (v := _) rfl (by kernel_rfl) (by kernel_rfl) (by kernel_rfl) (by kernel_rfl) (by kernel_rfl) (fun _ _ _ h => h) (Or.inl ⟨by rfl, by (intro wS hSw; (try dsimp only at hSw); go_simp; try with_reducible rfl)⟩) (by exact hHeld) ?_
        (try simp only [Act.put, List.setIfInBounds_toArray, List.set_cons_zero, List.set_cons_succ])
        refine anyZ.take (i := 13) (oi := { dst := some 35, op := Op.indexAddr 40 (Operand.tmp 3) (Operand.tmp 22), type := 0, pos := _, after := #[{ on := 0, ground := Ground.data }, { on := 0, ground := Ground.phase }, { on := 1, ground := Ground.phase }, { on := 2, ground := Ground.phase }, { on := 3, ground := Ground.phase }, { on := 4, ground := Ground.phase }, { on := 5, ground := Ground.phase }, { on := 6, ground := Ground.phase }, { on := 7, ground := Ground.phase }, { on := 8, ground := Ground.phase }, { on := 9, ground := Ground.phase }, { on := 10, ground := Ground.phase }, { on := 11, ground := Ground.phase }, { on := 12, ground := Ground.phase }], guard := none }) (v := _) rfl (by kernel_rfl) (by kernel_rfl) (by kernel_rfl) (by kernel_rfl) (by kernel_rfl) (fun _ _ _ h => h) (Or.inl ⟨by rfl, by (intro wS hSw; (try dsimp only at hSw); go_simp; try with_reducible rfl)⟩) (by exact hHeld) ?_
        (try simp only [Act.put, List.setIfInBounds_toArray, List.set_cons_zero, List.set_cons_succ])
        refine anyZ.ready (rs := [14]) (by kernel_rfl) (by simp) ?_
        refine (AllZ.cons (o := { dst := none, op := Op.store 38 (Operand.tmp 35) (Operand.tmp 34), type := 0, pos := _, after := #[{ on := 13, ground := Ground.data }, { on := 12, ground := Ground.data }, { on := 11, ground := Ground.chain }, { on := 0, ground := Ground.phase }, { on := 1, ground := Ground.phase }, { on := 2, ground := Ground.phase }, { on := 3, ground := Ground.phase }, { on := 4, ground := Ground.phase }, { on := 5, ground := Ground.phase }, { on := 6, ground := Ground.phase }, { on := 7, ground := Ground.phase }, { on := 8, ground := Ground.phase }, { on := 9, ground := Ground.phase }, { on := 10, ground := Ground.phase }, { on := 11, ground := Ground.phase }, { on := 12, ground := Ground.phase }], guard := none }) rfl (fun K hK => ?_) AllZ.nil)
        go_simp
        refine hK.out _ _ (fun h => absurd h (by decide)) (fun hHeld => ?_)
        clear hK K
        (try simp only [Act.put, List.setIfInBounds_toArray, List.set_cons_zero, List.set_cons_succ])
        refine anyZ.done (by kernel_rfl) ?_ _
        clear hHeld
        rw [HNi.out]
        have BV7 : Hid (Blk ((w6.setCell ⟨w.heap.size, i * 2, none⟩ (.int .i64 N')).setCell ⟨w.heap.size, i * 2 + 1, none⟩ (.slice A3 (m + 1) c3)) w.heap.size 40 ((l.toArray.setIfInBounds (i * 2) (.int .i64 N')).setIfInBounds (i * 2 + 1) (.slice A3 (m + 1) c3))) := Lib.hid ((BV6.out.set_ _ _).set_ _ _)
        have k7 : Keep w6.heap.size [w.heap.size] w6 ((w6.setCell ⟨w.heap.size, i * 2, none⟩ (.int .i64 N')).setCell ⟨w.heap.size, i * 2 + 1, none⟩ (.slice A3 (m + 1) c3)) := ((Keep.refl _ _ w6).setS (by simp)).setS (by simp)
        have BQ7 := Lib.hid ((BQ5.out.keepS KQ3.out (by simp)).keepS k7 (by simp))
        have K7 := Lib.hid ((K5.out.chain0 (Nat.le_refl _) KQ3.out).chain1 (Nat.le_refl _) k7 (Nat.le_refl _))
        have VN7 := Lib.hid (S3.out.keepS k7 (fun y hy => by have h1 := HA3.out y hy; have h2 := BV5.out.lt; simp; omega))
        have HC3 := Lib.hid (slcap S3.out)
        clear k7 BV6 g0 g1 v0 v1 c1
        obtain ⟨W7, hW7⟩ : ∃ W, W = (w6.setCell ⟨w.heap.size, i * 2, none⟩ (.int .i64 N')).setCell ⟨w.heap.size, i * 2 + 1, none⟩ (.slice A3 (m + 1) c3) := ⟨_, rfl⟩
        rw [← hW7] at BV7 BQ7 K7 VN7 ⊢
        clear hW7
        obtain ⟨l', hl'⟩ : ∃ l' : List Value, (l.toArray.setIfInBounds (i * 2) (.int .i64 N')).setIfInBounds (i * 2 + 1) (.slice A3 (m + 1) c3) = l'.toArray := ⟨_, (Array.toArray_toList (xs := _)).symm⟩
        have HF : Hid (∀ F, Keep w.heap.size [] w F → Sl F 3 1 A3 (m + 1) c3 (nums (x.s ++ [n])) → RV F l'.toArray (M.set i (markMo x n))) := Lib.hid (fun F k h => by
          have := rv_set (y := markMo x n) HRV.out HX.out k h
          have e : (markMo x n).n = N' := HN'.out
          rw [e, hl'] at this
          exact this)
        have HL' : Hid (l'.length = 32) := Lib.hid (by have h1 := congrArg Array.size hl'; have h2 := HL.out; simp at h1; omega)
        have HO' : Hid (l'.toArray.all (·.oneCell') = true) := Lib.hid (by rw [← hl']; exact all_set _ _ _ (all_set _ _ _ HO.out rfl) rfl)
        rw [hl'] at BV7
        clear hl'
        go_wp2_with (first
          | (refine wpList_load_mid rfl 40 (.tmp 3) rfl w.heap.size 0 rfl l' _ BV7.out.range Try.underlying40 rfl (by rw [infoRL]; simp [HL'.out]) ?_)
          | (refine wpList_store_mid rfl 40 (.tmp 6) (.tmp 36) rfl (w.heap.size + 1) 0 l'.toArray rfl rfl (BQ7.out.there 0 _ (by simp [HL'.out, zR])) (by rw [infoRL]; simp [HL'.out]) HO'.out ?_))
        refine bodyPost_ret (rm_results _ _ (w.heap.size + 1) l'.toArray 0 rfl rfl (BQ7.out.setAll (by simp [HL'.out, zR])) (by simp [HL'.out])) rfl ?_
        have KF := Keep.setCells (w := w) (B := w.heap.size) (S := []) (g := w.heap.size + 1) (.inl (Nat.le_succ _)) l' 0 _ K7.out
        have KG := Keep.setCells (w := W7) (B := W7.heap.size) (S := [w.heap.size + 1]) (g := w.heap.size + 1) (.inr (by simp)) l' 0 _ (Keep.refl _ _ _)
        exact ⟨_, rfl, HF.out _ KF (VN7.out.keepS KG (fun y hy => by have h1 := HA3.out y hy; have h2 := BQ5.out.lt; simp; omega)), KF⟩
end Go.Proofs.Ythpngafglljgnaa
