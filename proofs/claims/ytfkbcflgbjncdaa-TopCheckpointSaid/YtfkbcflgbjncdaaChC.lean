/- The checkpoint: within, id, and whether an id is among others. -/
import Derived.Test.YtfkbcflgbjncdaaChB
import Derived.Test.YtfkbcflgbjncdaaBig
import Derived.Deep.DeepCutAuto
namespace Go.Proofs.Ytfkbcflgbjncdaa
set_option linter.unusedVariables false
set_option linter.unusedSimpArgs false
open Go.RowKit
abbrev TF : TypeId := 75
structure Fi where
  s : Int
  n : Int
  deriving DecidableEq
def fcells (f : Fi) : List Value := [.int .i64 f.s, .int .i64 f.n]
theorem fcells_len (L : List Fi) : (L.flatMap fcells).length = L.length * 2 := by
  induction L with
  | nil => rfl
  | cons g L ih => simp only [List.flatMap_cons, fcells, List.length_append, List.length_cons, List.length_nil, ih]; omega
theorem fi_at {W : World} {G : Option Addr} {n k : Nat} {L : List Fi} (h : Vw W G n 2 (L.flatMap fcells)) (hk : k < n) : ∃ b o g, G = some ⟨b, o, none⟩ ∧ L[k]? = some g ∧ W.cell? ⟨b, o + k * 2, none⟩ = some (.int .i64 g.s) ∧ W.cell? ⟨b, o + k * 2 + 1, none⟩ = some (.int .i64 g.n) := by
  have hl : n = L.length := by have := h.1; rw [fcells_len] at this; omega
  obtain ⟨b, o, he, _, hc⟩ := h.2 (by omega)
  have hg : L[k]? = some L[k] := List.getElem?_eq_getElem (by omega)
  refine ⟨b, o, _, he, hg, ?_, ?_⟩
  · exact hc (k * 2) _ (by rw [show k * 2 = k * 2 + 0 from rfl, flat_get (f := fcells) (n := 2) (fun _ => rfl) L k _ 0 hg (by omega)]; rfl)
  · have := hc (k * 2 + 1) _ (by rw [flat_get (f := fcells) (n := 2) (fun _ => rfl) L k _ 1 hg (by omega)]; rfl)
    rw [← Nat.add_assoc] at this
    exact this
/-- the first k elements of a view of pairs -/
theorem vw2_take {W : World} {G : Option Addr} {n k : Nat} {L : List Fi} (h : Vw W G n 2 (L.flatMap fcells)) (hk : k ≤ n) : Vw W G k 2 ((L.take k).flatMap fcells) := by
  have hl : n = L.length := by have := h.1; rw [fcells_len] at this; omega
  refine ⟨by rw [fcells_len, List.length_take]; omega, fun h0 => ?_⟩
  obtain ⟨b, o, he, hb, hc⟩ := h.2 (by omega)
  refine ⟨b, o, he, hb, fun j u hj => hc j u ?_⟩
  have e : L.flatMap fcells = (L.take k).flatMap fcells ++ (L.drop k).flatMap fcells := by rw [← List.flatMap_append, List.take_append_drop]
  rw [e, List.getElem?_append_left (by exact (List.getElem?_eq_some_iff.1 hj).1)]
  exact hj
def inB (n a b : Int) : Bool := decide (a ≤ n) && decide (n ≤ b)
theorem inB_iff {n a b : Int} : inB n a b = true ↔ a ≤ n ∧ n ≤ b := by simp [inB]
theorem cwithin_b (w : World) (n a b : Int) (v : Bool) (hv : inB n a b = v) : Calls Try.prog 139 #[.int .i64 n, .int .i64 a, .int .i64 b] w fun e w' => e = .returned (.bool v) ∧ w = w' := by
  by_cases h1 : a ≤ n
  · have ev : v = decide (n ≤ b) := by rw [← hv]; unfold inB; rw [decide_eq_true h1]; rfl
    subst ev
    clear hv
    go_enter Try.func139, Try.ntmps139
    go_wp2_with fail
    go_ret
    exact ⟨rfl, rfl⟩
  · have ev : v = false := by rw [← hv]; unfold inB; rw [decide_eq_false h1]; rfl
    subst ev
    clear hv
    have h1' : n < a := by omega
    go_enter Try.func139, Try.ntmps139
    go_wp2_with fail
    go_ret
    exact ⟨rfl, rfl⟩
def idB (f : Fi) : Bool := inB f.s 0 15 && inB f.n 0 65535
set_option maxHeartbeats 1000000 in
theorem cid_b (w : World) (f : Fi) (v : Bool) (hv : idB f = v) : Calls Try.prog 140 #[.agg #[.int .i64 f.s, .int .i64 f.n]] w fun e w' => e = .returned (.bool v) ∧ Keep w.heap.size [] w w' := by
  have k1 : Keep w.heap.size [] w (w.alloc (.cells #[.int .i64 f.s, .int .i64 f.n] TF)) := (Keep.refl _ _ w).alloc (Nat.le_refl _) _
  have K1 := Lib.hid k1
  clear k1
  cases hs : inB f.s 0 15 with
  | false =>
    have ev : v = false := by rw [← hv]; unfold idB; rw [hs]; rfl
    subst ev
    have HS := Lib.hid hs
    clear hv hs
    go_enter Try.func140, Try.ntmps140
    go_wp2_with fail
    refine (cwithin_b _ _ _ _ false HS.out).mono ?_
    rintro e w' ⟨rfl, rfl⟩
    go_wp2_with fail
    go_ret
    exact ⟨rfl, K1.out⟩
  | true =>
    have ev : inB f.n 0 65535 = v := by rw [← hv]; unfold idB; rw [hs]; rfl
    have HS := Lib.hid hs
    have HN := Lib.hid ev
    clear hv hs ev
    go_enter Try.func140, Try.ntmps140
    go_wp2_with fail
    refine (cwithin_b _ _ _ _ true HS.out).mono ?_
    rintro e w' ⟨rfl, rfl⟩
    go_wp2_with fail
    refine (cwithin_b _ _ _ _ v HN.out).mono ?_
    rintro e w' ⟨rfl, rfl⟩
    go_wp2_with fail
    go_ret
    exact ⟨by cases v <;> rfl, K1.out⟩
def IdxPost (w : World) (v : Bool) (e : Ending) (w' : World) : Prop := ∃ z : Int, e = .returned (.int .i64 z) ∧ decide (0 ≤ z) = v ∧ Keep w.heap.size [] w w'
theorem mem_take_succ {L : List Fi} {k : Nat} {g f : Fi} (h : L[k]? = some g) : f ∈ L.take (k + 1) ↔ f ∈ L.take k ∨ f = g := by
  rw [List.take_add_one, h]
  simp
set_option maxHeartbeats 2000000 in
theorem cindex_v (w : World) (X : Option Addr) (m c : Nat) (L : List Fi) (f : Fi) (v : Bool) (hv : decide (f ∈ L) = v) (hg : Vw w X m 2 (L.flatMap fcells)) (hmc : m ≤ c) (hcm : c ≤ maxLen) (hm : m ≤ 100000) :
    Calls Try.prog 160 #[.slice X m c, .agg #[.int .i64 f.s, .int .i64 f.n]] w (IdxPost w v) := by
  have hl : m = L.length := by have := hg.1; rw [fcells_len] at this; omega
  have hncI : (m : Int) ≤ (c : Int) := by omega
  have hcI : (c : Int) ≤ 9223372036854775807 := by unfold maxLen at hcm; omega
  have k1 : Keep w.heap.size [] w (w.alloc (.cells #[.int .i64 f.s, .int .i64 f.n] TF)) := (Keep.refl _ _ w).alloc (Nat.le_refl _) _
  have hb := Blk.new w TF #[.int .i64 f.s, .int .i64 f.n]
  obtain ⟨W0, hW0⟩ : ∃ W0, W0 = w.alloc (.cells #[.int .i64 f.s, .int .i64 f.n] TF) := ⟨_, rfl⟩
  rw [← hW0] at k1 hb
  obtain ⟨p, hp⟩ : ∃ p, p = w.heap.size := ⟨_, rfl⟩
  rw [← hp] at hb
  have hp0 : w.heap.size ≤ p := by omega
  have K1 := Lib.hid k1
  have B1 := Lib.hid hb
  have HG := Lib.hid hg
  have HL := Lib.hid hl
  have HV := Lib.hid hv
  clear k1 hb hg hl hv
  go_enter Try.func160, Try.ntmps160
  go_upto_region 1 with fail
  change Code.wp _ _ _ _ (w.alloc (.cells #[.int .i64 f.s, .int .i64 f.n] TF))
  rw [← hW0, ← hp]
  clear hW0 hp
  go_wp2_with fail
  go_loopw [8] (fun j wr => ∃ (k : Nat), k ≤ m ∧ j = .int .i64 k ∧ f ∉ L.take k ∧ Keep w.heap.size [] w wr ∧ Blk wr p TF #[.int .i64 f.s, .int .i64 f.n]) (fun j _ => m - (intOf j).toNat)
  case atStart => exact ⟨0, Nat.zero_le _, rfl, by simp, K1.out, B1.out⟩
  case round =>
    obtain ⟨k, hk, rfl, hnm, hkw, hbw⟩ := hrel
    have KW := Lib.hid hkw
    have BW := Lib.hid hbw
    have NM := Lib.hid hnm
    clear hkw hnm
    by_cases hlt : k < m
    · have hki : (k : Int) < (m : Int) := by omega
      obtain ⟨b, o, g, rfl, hgk, d0, d1⟩ := fi_at (HG.out.keep0 KW.out) hlt
      have c0 : wr.cell? ⟨p, 0, none⟩ = some (.int .i64 f.s) := hbw.cell 0
      have c1 : wr.cell? ⟨p, 1, none⟩ = some (.int .i64 f.n) := hbw.cell 1
      have HGK := Lib.hid hgk
      clear hgk hbw
      by_cases he : f = g
      · have hvt : v = true := by
          rw [← HV.out]
          refine decide_eq_true ?_
          rw [he]
          exact List.mem_of_getElem? HGK.out
        subst he
        have HT := Lib.hid hvt
        clear hvt
        go_wp2_with fail
        go_quiet (fail)
        go_wp2_with fail
        go_ret
        exact ⟨k, rfl, by rw [HT.out]; simp, by exact KW.out.drewN _⟩
      · have hne : f ∉ L.take (k + 1) := by rw [mem_take_succ HGK.out]; rintro (h | h); exact NM.out h; exact he h
        have HNE := Lib.hid hne
        have two : ¬ f.s = g.s ∨ (f.s = g.s ∧ ¬ f.n = g.n) := by
          by_cases h1 : f.s = g.s
          · refine .inr ⟨h1, fun h2 => he ?_⟩
            cases f; cases g; simp only at h1 h2; rw [h1, h2]
          · exact .inl h1
        clear hne he
        rcases two with h1 | ⟨h1, h2⟩
        · go_wp2_with fail
          go_quiet (fail)
          go_wp2_with fail
          go_roundw
          case rel => exact ⟨k + 1, by omega, by go_num, HNE.out, by exact KW.out.drewN _, by exact BW.out⟩
          case measure => simp [intOf] <;> omega
        · rw [h1] at c0
          go_wp2_with fail
          go_quiet (fail)
          go_wp2_with fail
          go_roundw
          case rel => exact ⟨k + 1, by omega, by go_num, HNE.out, by exact KW.out.drewN _, by exact BW.out⟩
          case measure => simp [intOf] <;> omega
    · obtain rfl : k = m := by omega
      have hvf : v = false := by
        rw [← HV.out]
        refine decide_eq_false ?_
        have h := NM.out
        rwa [HL.out, List.take_length] at h
      subst hvf
      go_wp2_with fail
      go_ret
      exact ⟨-1, rfl, by decide, KW.out⟩
set_option maxHeartbeats 1000000 in
theorem ccontains_b (w : World) (X : Option Addr) (m c : Nat) (L : List Fi) (f : Fi) (v : Bool) (hv : decide (f ∈ L) = v) (hg : Vw w X m 2 (L.flatMap fcells)) (hmc : m ≤ c) (hcm : c ≤ maxLen) (hm : m ≤ 100000) :
    Calls Try.prog 141 #[.slice X m c, .agg #[.int .i64 f.s, .int .i64 f.n]] w fun e w' => e = .returned (.bool v) ∧ Keep w.heap.size [] w w' := by
  have k1 : Keep w.heap.size [] w (w.alloc (.cells #[.int .i64 f.s, .int .i64 f.n] TF)) := (Keep.refl _ _ w).alloc (Nat.le_refl _) _
  have K1 := Lib.hid k1
  have HG := Lib.hid (hg.keep0 k1)
  have HV := Lib.hid hv
  clear hg k1 hv
  go_enter Try.func141, Try.ntmps141
  go_wp2_with fail
  refine (cindex_v _ X m c L f v HV.out HG.out hmc hcm hm).mono ?_
  rintro e w1 ⟨z, rfl, hz, hk⟩
  have HZ := Lib.hid hz
  have K2 := Lib.hid hk
  clear hz hk
  go_wp2_with fail
  go_ret
  exact ⟨by rw [← HZ.out]; rfl, K1.out.chain0 (Nat.le_refl _) K2.out⟩
end Go.Proofs.Ytfkbcflgbjncdaa
