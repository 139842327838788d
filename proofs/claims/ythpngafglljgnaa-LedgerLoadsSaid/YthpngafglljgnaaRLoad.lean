/- The reference's Load: whether it accepts. -/
import Derived.Test.YthpngafglljgnaaBits
import Derived.Deep.DeepCutAuto
namespace Go.Proofs.Ythpngafglljgnaa
set_option linter.unusedVariables false
set_option linter.unusedSimpArgs false
open Go.RowKit
theorem Blk.setCellsX {w : World} {g : Nat} {t : TypeId} : ∀ (vs : List Value) (o : Nat) (w : World) (cs : Array Value), Blk w g t cs → ∃ cs', Blk (w.setCells g o vs) g t cs' ∧ cs'.size = cs.size
  | [], o, w, cs, h => ⟨cs, h, rfl⟩
  | v :: vs, o, w, cs, h => by
    obtain ⟨cs', h1, h2⟩ := Blk.setCellsX (w := w) vs (o + 1) (w.setCell ⟨g, o, none⟩ v) _ (h.set_ o v)
    exact ⟨cs', h1, by rw [h2]; simp⟩
theorem Blk.there {w : World} {g : Nat} {t : TypeId} {cs : Array Value} (h : Blk w g t cs) (o n : Nat) (hn : o + n ≤ cs.size) : w.there g o n := fun j hj =>
  ⟨by rw [h.cell, Array.getElem?_eq_getElem (by omega)]; rfl, h.frozen _⟩
/-- a block written anew, whole -/
theorem Blk.setAll {w : World} {g : Nat} {t : TypeId} {cs vs : Array Value} (h : Blk w g t cs) (hs : vs.size = cs.size) : Blk (w.setCells g 0 vs.toList) g t vs := by
  obtain ⟨cs', h1, h2⟩ := Blk.setCellsX (w := w) vs.toList 0 w cs h
  have hr := World.rangeAt_setCells_same w g 0 vs.toList (h.there 0 _ (by simp [hs]))
  have e : cs' = vs := by
    apply Array.ext_getElem?
    intro i
    by_cases hi : i < vs.size
    · have h3 := hr i vs[i] (by simp [hi])
      rw [Nat.zero_add, h1.cell] at h3
      rw [h3, Array.getElem?_eq_getElem hi]
    · rw [Array.getElem?_eq_none (by omega), Array.getElem?_eq_none (by omega)]
  exact e ▸ h1
theorem Keep.setCells {B : Nat} {S : List Nat} {w : World} {g : Nat} (hg : B ≤ g ∨ g ∈ S) : ∀ (vs : List Value) (o : Nat) (w' : World), Keep B S w w' → Keep B S w (w'.setCells g o vs)
  | [], o, w', h => h
  | v :: vs, o, w', h => Keep.setCells hg vs (o + 1) _ (h.setCell (p := ⟨g, o, none⟩) hg v)
theorem Blk.range {w : World} {g : Nat} {t : TypeId} {cs : Array Value} (h : Blk w g t cs) : w.rangeAt g 0 cs.toList := fun j v hv => by
  rw [Nat.zero_add, h.cell]; simpa using hv
theorem infoRL : (Try.prog.info? 40).map (·.size) = some 32 := by kernel_rfl
theorem rl_results (w : World) (tmps : Array Value) (g : Nat) (cs : Array Value) (ok : Bool) (h2 : tmps.getD 2 undef = bptr g) (h3 : tmps.getD 3 undef = .bool ok) (hb : Blk w g 40 cs) (hs : cs.size = 32) :
    (results Try.f14 tmps).run Try.prog w = .ok (.tuple #[.agg cs, .bool ok]) w := by
  have hl := run_loadVar_mid (P := Try.prog) w g 0 40 cs.toList _ hb.range Try.underlying40 rfl (by rw [infoRL]; simp [hs])
  simp only [Array.getD_eq_getD_getElem?] at h2 h3
  simp [results, Try.results14, h2, h3, asAddr, hl]

theorem infoI64 : (Try.prog.info? 3).map (fun i => (i.zero, i.size, i.bytes)) = some (some (.int .i64 0), 1, 8) := by kernel_rfl
theorem takeuint_v (w : World) (X : Option Addr) (m c : Nat) (L : List Int) (V z : Int) (sz : Nat) (hz : z = (sz : Int)) (hV : beVal (L.take sz) = V) (hO : Oct L) (hv : Vw w X m 1 (octs L)) (h1 : 1 ≤ sz) (h8 : sz ≤ 8) (hle : sz ≤ L.length) :
    Calls Try.prog 27 #[.slice X m c, .int .i64 z] w fun e w' =>
      e = .returned (.tuple #[.int .u64 V, .int .i64 z]) ∧ w = w' := by
  subst hz; subst hV; exact takeuint_yes w X m c L hO hv sz h1 h8 hle
def recN (B : List Int) (j : Nat) : Int := beVal ((B.drop (10 * j)).take 2)
def recM (B : List Int) (j : Nat) : Int := beVal ((B.drop (10 * j + 2)).take 8)
def refRecB (n m : Int) : Bool := ((n == 0) == (m % 2 == 0)) && (List.range 64).all (fun k => !(bitAt m k) || decide (1 ≤ n - (k : Int)))
def refOk (B : List Int) : Bool := decide (B.length = 160) && (List.range 16).all (fun j => refRecB (recN B j) (recM B j))
theorem refOk_no {B : List Int} {j : Nat} (hj : j < 16) (h : refRecB (recN B j) (recM B j) = false) : refOk B = false := by
  unfold refOk
  rw [Bool.and_eq_false_iff]
  right
  exact List.all_eq_false.2 ⟨j, List.mem_range.2 hj, by rw [h]; simp⟩
theorem rec_bd {B : List Int} (hO : Oct B) (h : B.length = 160) {j : Nat} (hj : j < 16) : (0 ≤ recN B j ∧ recN B j < 65536) ∧ 0 ≤ recM B j ∧ recM B j < 18446744073709551616 := by
  have h1 := beVal_bd 2 ((B.drop (10 * j)).take 2) (fun x hx => hO x (List.mem_of_mem_drop (List.mem_of_mem_take hx))) (by simp; omega)
  have h2 := beVal_bd 8 ((B.drop (10 * j + 2)).take 8) (fun x hx => hO x (List.mem_of_mem_drop (List.mem_of_mem_take hx))) (by simp; omega)
  exact ⟨by unfold recN; omega, by unfold recM; omega⟩
def zRL : Array Value := (List.replicate 16 [Value.int .i64 0, Value.slice none 0 0]).flatten.toArray
theorem zRL_at : ∀ i, i < 16 → zRL[i * 2 + 1]? = some (.slice none 0 0) := by
  intro i hi
  have h : i = 0 ∨ i = 1 ∨ i = 2 ∨ i = 3 ∨ i = 4 ∨ i = 5 ∨ i = 6 ∨ i = 7 ∨ i = 8 ∨ i = 9 ∨ i = 10 ∨ i = 11 ∨ i = 12 ∨ i = 13 ∨ i = 14 ∨ i = 15 := by omega
  rcases h with rfl | rfl | rfl | rfl | rfl | rfl | rfl | rfl | rfl | rfl | rfl | rfl | rfl | rfl | rfl | rfl <;> rfl
def RLPost (w : World) (ok : Bool) (e : Ending) (w' : World) : Prop :=
  ∃ a : Array Value, e = .returned (.tuple #[.agg a, .bool ok]) ∧ a.size = 32 ∧ a.all (·.oneCell') = true ∧ Keep w.heap.size [] w w'
/-- the state of the inner loop -/
def RLIn (w : World) (r0 r1 : Nat) (s k : Nat) (N M : Int) (wr : World) : Prop :=
  ∃ cs A n c xs, Keep w.heap.size [] w wr ∧ Blk wr r0 40 zRL ∧ Blk wr r1 40 cs ∧ cs.size = 32 ∧ cs.all (·.oneCell') = true ∧ (∀ i, s < i → i < 16 → cs[i * 2 + 1]? = some (.slice none 0 0)) ∧
    cs[s * 2 + 1]? = some (.slice A n c) ∧ Sl wr 3 1 A n c xs ∧ n ≤ k ∧ (∀ x, x ∈ blks A → w.heap.size ≤ x) ∧ (∀ j, j < k → bitAt M j = true → 1 ≤ N - (j : Int))
theorem all_set (cs : Array Value) (i : Nat) (v : Value) (h : cs.all (·.oneCell') = true) (hv : v.oneCell' = true) : (cs.setIfInBounds i v).all (·.oneCell') = true := by
  refine Array.all_eq_true_iff_forall_mem.2 (fun x hx => ?_)
  rcases Array.mem_or_eq_of_mem_setIfInBounds hx with h' | h'
  · exact Array.all_eq_true_iff_forall_mem.1 h x h'
  · rw [h']; exact hv
theorem refRec_no (N M : Int) (k : Nat) (hk : k < 64) (hb : bitAt M k = true) (h : ¬ 1 ≤ N - (k : Int)) : refRecB N M = false := by
  unfold refRecB
  rw [Bool.and_eq_false_iff]
  right
  exact List.all_eq_false.2 ⟨k, List.mem_range.2 hk, by rw [hb, decide_eq_false h]; decide⟩
theorem refRec_yes (N M : Int) (h1 : ((N == 0) == (M % 2 == 0)) = true) (h : ∀ j, j < 64 → bitAt M j = true → 1 ≤ N - (j : Int)) : refRecB N M = true := by
  unfold refRecB
  rw [h1, Bool.true_and]
  refine List.all_eq_true.2 (fun j hj => ?_)
  cases hb : bitAt M j with
  | false => rfl
  | true => rw [decide_eq_true (h j (List.mem_range.1 hj) hb)]; rfl
/-- the state of the outer loop -/
def RLRel (w : World) (r0 r1 : Nat) (s : Nat) (wr : World) : Prop :=
  ∃ cs, Keep w.heap.size [] w wr ∧ Blk wr r0 40 zRL ∧ Blk wr r1 40 cs ∧ cs.size = 32 ∧ cs.all (·.oneCell') = true ∧ (∀ i, s ≤ i → i < 16 → cs[i * 2 + 1]? = some (.slice none 0 0))
set_option maxRecDepth 10000 in
set_option maxHeartbeats 8000000 in
theorem rload_b (w : World) (X : Option Addr) (m c : Nat) (B : List Int) (ok : Bool) (hok : refOk B = ok) (hO : Oct B) (hmc : m ≤ c) (hcm : c ≤ maxLen) (hm : m ≤ 100000000) (hv : Vw w X m 1 (octs B)) :
    Calls Try.prog 14 #[.slice X m c] w (RLPost w ok) := by
  have hlm : B.length = m := by simpa [octs] using hv.1
  have hcm' : (c : Int) ≤ 9223372036854775807 := by unfold maxLen at hcm; omega
  have hmc' : (m : Int) ≤ (c : Int) := by omega
  have HLM := Lib.hid hlm
  have HV := Lib.hid hv
  have HO := Lib.hid hO
  have HOK := Lib.hid hok
  by_cases h160 : m = 160
  · clear hlm hv hO hok
    subst h160
    go_enter Try.func14, Try.ntmps14
    go_upto_region 2 with fail
    obtain ⟨W0, hW0⟩ : ∃ W0, W0 = (w.alloc (.cells zRL 40)).alloc (.cells zRL 40) := ⟨_, rfl⟩
    have hr1 : (w.alloc (.cells zRL 40)).heap.size = w.heap.size + 1 := by simp
    have HB0 : Hid (Blk W0 w.heap.size 40 zRL) := by rw [hW0]; exact (Blk.new w _ zRL).alloc _
    have HB1 : Hid (Blk W0 (w.heap.size + 1) 40 zRL) := by rw [hW0, ← hr1]; exact Blk.new _ _ zRL
    have K0 : Hid (Keep w.heap.size [] w W0) := by rw [hW0]; exact ((Keep.refl _ _ w).alloc (Nat.le_refl _) _).alloc (by simp) _
    change Code.wp _ _ _ _ ((w.alloc (.cells zRL 40)).alloc (.cells zRL 40))
    rw [← hW0]
    clear hW0 hr1
    have HR0 : Hid (w.heap.size ≤ w.heap.size) := Nat.le_refl _
    have HR1 : Hid (w.heap.size ≤ w.heap.size + 1) := Nat.le_succ _
    have HNE : Hid (w.heap.size ≠ w.heap.size + 1) := (by omega : w.heap.size ≠ w.heap.size + 1)
    obtain ⟨i0, hi0, hz0, hz1, hz2⟩ := info_parts infoI64
    obtain ⟨bx, ox, rfl, hbx, _⟩ := HV.out.2 (by omega)
    go_wp2_with fail
    generalize w.heap.size + 1 = r1 at HB1 HR1 HNE ⊢
    obtain ⟨r0, hr0⟩ : ∃ r0, r0 = w.heap.size := ⟨_, rfl⟩
    rw [← hr0] at HB0 HNE HR0
    have HR0' : Hid (w.heap.size ≤ r0) := by rw [hr0]; exact Nat.le_refl _
    clear HR0
    have HR0 := HR0'
    rw [← hr0]
    have HRR0 := Lib.hid hr0
    clear HR0' hr0
    go_loopw [5] (fun v wr => ∃ s : Nat, s ≤ 16 ∧ v = .int .i64 s ∧ RLRel w r0 r1 s wr ∧ (∀ j, j < s → refRecB (recN B j) (recM B j) = true)) (fun v _ => 16 - (intOf v).toNat)
    case atStart => exact ⟨0, by omega, rfl, ⟨zRL, K0.out, HB0.out, HB1.out, rfl, by decide +kernel, fun i _ hi => zRL_at i hi⟩, fun j hj => by omega⟩
    case round =>
      clear HB0 HB1 K0
      obtain ⟨s, hs, rfl, ⟨cs, hkw, hb0, hb1, hsz, hone, hnil⟩, hpre⟩ := hrel
      have KW := Lib.hid hkw
      have B0 := Lib.hid hb0
      have B1 := Lib.hid hb1
      have HSZ := Lib.hid hsz
      have HONE := Lib.hid hone
      have HNIL := Lib.hid hnil
      have HPRE := Lib.hid hpre
      by_cases hlt : s < 16
      · obtain ⟨⟨n0, n1⟩, m0, m1⟩ := rec_bd HO.out HLM.out hlt
        have HVW := Lib.hid (HV.out.keep0 hkw)
        have HT1 : Hid (Vw wr (some ⟨bx, ox + 10 * s, none⟩) (160 - 10 * s) 1 (octs (B.drop (10 * s)))) := by
          have h := HVW.out.drop (k := 10 * s) (by omega)
          rwa [octs, ← List.map_drop] at h
        have HT2 : Hid (Vw wr (some ⟨bx, ox + (10 * s + 2), none⟩) (158 - 10 * s) 1 (octs (B.drop (10 * s + 2)))) := by
          have h := HVW.out.drop (k := 10 * s + 2) (by omega)
          rw [show 160 - (10 * s + 2) = 158 - 10 * s by omega] at h
          rwa [octs, ← List.map_drop] at h
        obtain ⟨N, hN⟩ : ∃ N, beVal ((B.drop (10 * s)).take 2) = N := ⟨_, rfl⟩
        obtain ⟨M, hM⟩ : ∃ M, beVal ((B.drop (10 * s + 2)).take 8) = M := ⟨_, rfl⟩
        have HNN := Lib.hid hN
        have HMM := Lib.hid hM
        have hrn : recN B s = N := hN
        have hrm : recM B s = M := hM
        rw [hrn] at n0 n1
        rw [hrm] at m0 m1
        have HRN := Lib.hid hrn
        have HRM := Lib.hid hrm
        obtain ⟨v0, hv0⟩ : ∃ v0, cs[s * 2]? = some v0 := ⟨cs[s * 2]'(by omega), Array.getElem?_eq_getElem _⟩
        have c0 : wr.cell? ⟨r1, s * 2, none⟩ = some v0 := (hb1.cell _).trans hv0
        have f0 := hb1.frozen (s * 2)
        have hs16 : (s : Int) < 16 := by omega
        have hl1 : 10 * (s : Int) ≤ 160 := by omega
        have hl2 : 10 * (s : Int) + 2 ≤ 160 := by omega
        have hcc : (160 : Int) ≤ (c : Int) := by omega
        have hne1 : ¬ c = 10 * s := by omega
        have hne2 : ¬ c = 10 * s + 2 := by omega
        clear hkw hb0 hb1 hsz hone hnil hpre hN hM hrn hrm hv0
        go_wp2_with fail
        refine (takeuint_v _ _ _ _ (B.drop (10 * s)) N 2 2 rfl HNN.out (fun x hx => HO.out x (List.mem_of_mem_drop hx)) HT1.out (by omega) (by omega) (by have := HLM.out; simp; omega)).mono ?_
        rintro e w' ⟨rfl, rfl⟩
        go_wp2_with fail
        refine (takeuint_v _ _ _ _ (B.drop (10 * s + 2)) M 8 8 rfl HMM.out (fun x hx => HO.out x (List.mem_of_mem_drop hx)) HT2.out (by omega) (by omega) (by have := HLM.out; simp; omega)).mono ?_
        rintro e w' ⟨rfl, rfl⟩
        go_upto_region 10 with fail
        obtain ⟨W1, hW1⟩ : ∃ W1, W1 = wr.setCell ⟨r1, s * 2, none⟩ (.int .i64 N) := ⟨_, rfl⟩
        have HW1 : Hid (wr.setCell ⟨r1, s * 2, none⟩ (.int .i64 N) = W1) := hW1.symm
        have B01 : Hid (Blk W1 r0 40 zRL) := by rw [hW1]; exact B0.out.far (p := ⟨r1, s * 2, none⟩) HNE.out _
        have B11 : Hid (Blk W1 r1 40 (cs.setIfInBounds (s * 2) (.int .i64 N))) := by rw [hW1]; exact B1.out.set_ _ _
        have K1 : Hid (Keep w.heap.size [] w W1) := by rw [hW1]; exact KW.out.setN HR1.out
        rw [HW1.out]
        clear hW1 HW1 c0 f0 B0 B1 KW HVW HT1 HT2
        obtain ⟨a, hA⟩ : ∃ a, (N == 0) = a := ⟨_, rfl⟩
        obtain ⟨b, hB⟩ : ∃ b, (M % 2 == 0) = b := ⟨_, rfl⟩
        by_cases hab : a = b
        · have HPAR : Hid (((N == 0) == (M % 2 == 0)) = true) := by unfold Hid; rw [hA, hB, hab]; simp
          have hab' : (a == b) = true := by rw [hab]; simp
          clear hab
          go_wp2_with fail
          go_loopw [8, 10] (fun u v wi => ∃ k : Nat, k ≤ 64 ∧ v = .int .i64 k ∧ u = .int .u64 (M / 2 ^ k) ∧ RLIn w r0 r1 s k N M wi) (fun _ v _ => 64 - (intOf v).toNat)
          case atStart =>
            refine ⟨0, by omega, rfl, by simp, cs.setIfInBounds (s * 2) (.int .i64 N), none, 0, 0, [], K1.out, B01.out, B11.out, by simp [HSZ.out], all_set _ _ _ HONE.out rfl, fun i h1 h2 => ?_, ?_, Sl.nil _ _ _, Nat.le_refl _, by simp [blks], fun j hj => by omega⟩
            · rw [Array.getElem?_setIfInBounds_ne (by omega)]; exact HNIL.out i (by omega) h2
            · rw [Array.getElem?_setIfInBounds_ne (by omega)]; exact HNIL.out s (Nat.le_refl _) hlt
          case round =>
            obtain ⟨k, hk, rfl, rfl, cs2, A, nn, cc, xs, hkw, hb0, hb1, hsz, hone, hnil, hcell, hsl, hnk, hA2, hbits⟩ := hrel
            have KW := Lib.hid hkw
            have B0 := Lib.hid hb0
            have B1 := Lib.hid hb1
            have HSZ2 := Lib.hid hsz
            have HONE2 := Lib.hid hone
            have HNIL2 := Lib.hid hnil
            have HCE := Lib.hid hcell
            have HSL := Lib.hid hsl
            have HA2 := Lib.hid hA2
            have HBITS := Lib.hid hbits
            clear hkw hb0 hb1 hsz hone hnil hcell hsl hA2 hbits
            by_cases hk64 : k < 64
            · obtain ⟨q, hq⟩ : ∃ q, M / 2 ^ k = q := ⟨_, rfl⟩
              have hqb := div_bd M k m0 m1
              rw [hq] at hqb
              obtain ⟨q0, q1⟩ := hqb
              have hqn : M / 2 ^ (k + 1) = q / 2 := by
                rw [← hq, Int.pow_succ, ← Int.ediv_ediv_of_nonneg (Int.le_of_lt (Int.pow_pos (by decide)))]
              have HQN := Lib.hid hqn
              have hbk : bitAt M k = (q % 2 == 1) := by unfold bitAt; rw [hq]
              have HBK := Lib.hid hbk
              rw [hq]
              clear hq hqn hbk
              have hk' : (k : Int) < 64 := by omega
              have hk0 : (0 : Int) ≤ (k : Int) := by omega
              cases hbit : (q % 2 == 1) with
              | false =>
                have HBF : Hid (bitAt M k = false) := HBK.out.trans hbit
                go_wp2_with fail
                go_roundw
                case rel =>
                  refine ⟨k + 1, by omega, by go_num, by rw [HQN.out], cs2, A, nn, cc, xs, KW.out, B0.out, B1.out, HSZ2.out, HONE2.out, HNIL2.out, HCE.out, HSL.out, by omega, HA2.out, fun j hj hbj => ?_⟩
                  by_cases hjk : j = k
                  · subst hjk; rw [HBF.out] at hbj; cases hbj
                  · exact HBITS.out j (by omega) hbj
                case measure => simp [intOf] <;> omega
              | true =>
                have HBT : Hid (bitAt M k = true) := HBK.out.trans hbit
                by_cases hnk1 : N - (k : Int) < 1
                · have ho : ok = false := by rw [← HOK.out]; exact refOk_no hlt (by rw [HRN.out, HRM.out]; exact refRec_no N M k hk64 HBT.out (by omega))
                  subst ho
                  go_wp2_with (refine wpList_store_mid rfl 40 (.tmp 2) (.tmp 62) rfl r0 0 zRL rfl rfl (B0.out.there 0 _ (Nat.le_refl _)) (by rw [infoRL]; rfl) (by decide +kernel) ?_)
                  refine bodyPost_ret (rl_results _ _ r0 zRL false rfl rfl (B0.out.setAll rfl) rfl) rfl ⟨zRL, rfl, rfl, by decide +kernel, ?_⟩
                  exact Keep.setCells (.inl HR0.out) _ _ _ KW.out
                · have d1 : wr.cell? ⟨r1, s * 2 + 1, none⟩ = some (.slice A nn cc) := (B1.out.cell _).trans HCE.out
                  have d2 : ∀ o : Obj, (wr.alloc o).cell? ⟨r1, s * 2 + 1, none⟩ = some (.slice A nn cc) := fun o => ((B1.out.alloc o).cell _).trans HCE.out
                  go_wp2_with (at_builtin
                               refine wpList_app1 _ rfl (.tmp 70) (.tmp 75) 36 rfl 3 i0 _ 1 8 Try.underlying36 hi0 hz0 hz1 hz2 rfl (by omega) A nn cc xs rfl (by exact HSL.out.alloc _) _ _ _ rfl (by exact Blk.new _ _ _) rfl rfl (by omega) (by omega) ?_
                               intro A3 c3 w3 hs3 hk3 hb3
                               have hne : r1 ∉ blks A := HSL.out.ne_blk B1.out (by decide)
                               have hne0 : r0 ∉ blks A := HSL.out.ne_blk B0.out (by decide)
                               have HS3 := Lib.hid hs3
                               have HB3 := Lib.hid hb3
                               have B13 := Lib.hid ((B1.out.alloc _).keepS hk3 hne)
                               have B03 := Lib.hid ((B0.out.alloc _).keepS hk3 hne0)
                               have K3 : Hid (Keep w.heap.size [] w w3) := (KW.out.alloc KW.out.size _).chain (Nat.le_refl _) hk3 HA2.out
                               have d3 : w3.cell? ⟨r1, s * 2 + 1, none⟩ = some (.slice A nn cc) := (B13.out.cell _).trans HCE.out
                               have f3 := B13.out.frozen (s * 2 + 1)
                               clear hs3 hk3 hb3 hne hne0)
                  go_roundw
                  case rel =>
                    refine ⟨k + 1, by omega, by go_num, by rw [HQN.out], cs2.setIfInBounds (s * 2 + 1) (.slice A3 (nn + 1) c3), A3, nn + 1, c3, _, K3.out.setN HR1.out, B03.out.far (p := ⟨r1, s * 2 + 1, none⟩) HNE.out _, B13.out.set_ _ _, by simp [HSZ2.out], all_set _ _ _ HONE2.out rfl, fun i h1 h2 => ?_, ?_, HS3.out.far _ (HS3.out.ne_blk B13.out (by decide)), by omega, fun x hx => ?_, fun j hj hbj => ?_⟩
                    · rw [Array.getElem?_setIfInBounds_ne (by omega)]; exact HNIL2.out i h1 h2
                    · rw [Array.getElem?_setIfInBounds_self_of_lt (by rw [HSZ2.out]; omega)]
                    · rcases HB3.out x hx with h | h
                      · exact HA2.out x h
                      · have := KW.out.size; simp at h; omega
                    · by_cases hjk : j = k
                      · subst hjk; omega
                      · exact HBITS.out j (by omega) hbj
                  case measure => simp [intOf] <;> omega
            · obtain rfl : k = 64 := by omega
              have HRR : Hid (refRecB (recN B s) (recM B s) = true) := by
                unfold Hid; rw [HRN.out, HRM.out]; exact refRec_yes N M HPAR.out HBITS.out
              go_wp2_with fail
              go_roundw
              case rel =>
                refine ⟨s + 1, by omega, by go_num, ⟨cs2, KW.out, B0.out, B1.out, HSZ2.out, HONE2.out, fun i h1 h2 => HNIL2.out i (by omega) h2⟩, fun j hj => ?_⟩
                by_cases hjs : j = s
                · subst hjs; exact HRR.out
                · exact HPRE.out j (by omega)
              case measure => simp [intOf] <;> omega
        · have ho : ok = false := by
            rw [← HOK.out]
            refine refOk_no hlt ?_
            rw [HRN.out, HRM.out]
            unfold refRecB
            rw [hA, hB, beq_false_of_ne hab, Bool.false_and]
          subst ho
          have hab' : (a == b) = false := beq_false_of_ne hab
          clear hab
          go_wp2_with (refine wpList_store_mid rfl 40 (.tmp 2) (.tmp 47) rfl r0 0 zRL rfl rfl (B01.out.there 0 _ (Nat.le_refl _)) (by rw [infoRL]; rfl) (by decide +kernel) ?_)
          refine bodyPost_ret (rl_results _ _ r0 zRL false rfl rfl (B01.out.setAll rfl) rfl) rfl ⟨zRL, rfl, rfl, by decide +kernel, ?_⟩
          exact Keep.setCells (.inl HR0.out) _ _ _ K1.out
      · obtain rfl : s = 16 := by omega
        have ho : ok = true := by
          rw [← HOK.out]
          unfold refOk
          rw [decide_eq_true HLM.out, Bool.true_and]
          exact List.all_eq_true.2 (fun j hj => HPRE.out j (List.mem_range.1 hj))
        subst ho
        clear hkw hb0 hb1 hsz hone hnil hpre
        go_wp2_with (first
          | (refine wpList_load_mid rfl 40 (.tmp 4) rfl r1 0 rfl cs.toList _ B1.out.range Try.underlying40 rfl (by rw [infoRL]; simp [HSZ.out]) ?_)
          | (refine wpList_store_mid rfl 40 (.tmp 2) (.tmp 81) rfl r0 0 cs.toList.toArray rfl rfl (B0.out.there 0 _ (by simp [HSZ.out, zRL])) (by rw [infoRL]; simp [HSZ.out]) (by simpa using HONE.out) ?_))
        refine bodyPost_ret (rl_results _ _ r0 cs.toList.toArray true rfl rfl (B0.out.setAll (by simp [HSZ.out, zRL])) (by simp [HSZ.out])) rfl ⟨cs.toList.toArray, rfl, by simp [HSZ.out], by simpa using HONE.out, ?_⟩
        exact Keep.setCells (.inl HR0.out) _ _ _ KW.out
  · have ho : ok = false := by rw [← hok]; unfold refOk; rw [decide_eq_false (by omega)]; rfl
    subst ho
    have e160 : ((m : Int) == 160) = false := beq_false_of_ne (by omega)
    have n160 : ((m : Int) != 160) = true := by simp; omega
    clear hlm hv hO hok h160
    go_enter Try.func14, Try.ntmps14
    go_upto_region 2 with fail
    obtain ⟨W0, hW0⟩ : ∃ W0, W0 = (w.alloc (.cells zRL 40)).alloc (.cells zRL 40) := ⟨_, rfl⟩
    have HB0 : Hid (Blk W0 w.heap.size 40 zRL) := by rw [hW0]; exact (Blk.new w _ zRL).alloc _
    have K0 : Hid (Keep w.heap.size [] w W0) := by rw [hW0]; exact ((Keep.refl _ _ w).alloc (Nat.le_refl _) _).alloc (by simp) _
    change Code.wp _ _ _ _ ((w.alloc (.cells zRL 40)).alloc (.cells zRL 40))
    rw [← hW0]
    clear hW0
    go_wp2_with (refine wpList_store_mid rfl 40 (.tmp 2) (.tmp 14) rfl w.heap.size 0 zRL rfl rfl (HB0.out.there 0 _ (Nat.le_refl _)) (by rw [infoRL]; rfl) (by decide +kernel) ?_)
    refine bodyPost_ret (rl_results _ _ w.heap.size zRL false rfl rfl (HB0.out.setAll rfl) rfl) rfl ⟨zRL, rfl, rfl, by decide +kernel, ?_⟩
    exact Keep.setCells (.inl (Nat.le_refl _)) _ _ _ K0.out
end Go.Proofs.Ythpngafglljgnaa
