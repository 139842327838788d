/- The error-correcting memory: ok, check, repair, Read. -/
import Derived.Test.YtfkbcflgbjncdaaCrc
namespace Go.Proofs.Ytfkbcflgbjncdaa
set_option linter.unusedVariables false
set_option linter.unusedSimpArgs false
open Go.RowKit
abbrev TMem : TypeId := 126
def cdsC (C : List Nat) : Array Value := (C.map fun (c : Nat) => Value.int .u64 (c : Int)).toArray
theorem cdsC_at {C : List Nat} {i c : Nat} (h : C[i]? = some c) : (cdsC C)[i]? = some (.int .u64 (c : Int)) := by simp [cdsC, h]
theorem cdsC_set (C : List Nat) (i c : Nat) : (cdsC C).setIfInBounds i (.int .u64 (c : Int)) = cdsC (C.set i c) := by
  unfold cdsC
  rw [List.setIfInBounds_toArray, List.map_set]
/-- the word of a number: clean, or with one bit inverted -/
def Cw (cl : Bool) (d c : Nat) : Prop := d < 4294967296 ∧ (c = encW d ∨ (cl = false ∧ ∃ b, b < 39 ∧ c = encW d ^^^ 2 ^ b))
/-- a memory g with the words' block a: the numbers D, the code words C -/
structure MemC (w : World) (g a : Nat) (cl : Bool) (D C : List Nat) : Prop where
  mb : ∃ fx : Int, Blk w g TMem #[.bool true, .slice (some ⟨a, 0, none⟩) D.length D.length, .int .i64 fx]
  cb : Blk w a 95 (cdsC C)
  le : C.length = D.length
  cw : ∀ (i d : Nat), D[i]? = some d → ∃ c, C[i]? = some c ∧ Cw cl d c
  ga : g ≠ a
  len : D.length ≤ 1000000
theorem MemC.keepS {w w' : World} {g a : Nat} {cl : Bool} {D C : List Nat} {S : List Nat} (h : MemC w g a cl D C) (k : Keep w.heap.size S w w') (hg : g ∉ S) (ha : a ∉ S) : MemC w' g a cl D C := by
  obtain ⟨fx, hm⟩ := h.mb
  exact ⟨⟨fx, hm.keepS k hg⟩, h.cb.keepS k ha, h.le, h.cw, h.ga, h.len⟩
theorem mok_w (w : World) (g : Nat) (u v : Value) (hb : Blk w g TMem #[.bool true, u, v]) : Calls Try.prog 116 #[bptr g] w fun e w' => e = .returned (.bool true) ∧ w = w' := by
  have h0 : w.cell? ⟨g, 0, none⟩ = some (.bool true) := hb.cell 0
  clear hb
  go_enter Try.func116, Try.ntmps116
  go_wp2_with fail
  go_ret
  exact ⟨rfl, rfl⟩
set_option maxHeartbeats 1000000 in
theorem check_in (w : World) (g a : Nat) (cl : Bool) (D C : List Nat) (i : Nat) (h : MemC w g a cl D C) (hi : i < D.length) : Calls Try.prog 65 #[bptr g, .int .i64 (i : Int)] w fun e w' => e = .returned (.int .i64 0) ∧ w = w' := by
  obtain ⟨fx, hm⟩ := h.mb
  have h1 : w.cell? ⟨g, 1, none⟩ = some (.slice (some ⟨a, 0, none⟩) D.length D.length) := hm.cell 1
  have HM := Lib.hid hm
  obtain ⟨n, hn⟩ : ∃ n, n = D.length := ⟨_, rfl⟩
  rw [← hn] at h1 hi
  have hi1 : (i : Int) < (n : Int) := by omega
  have hi2 : ¬ (n : Int) ≤ (i : Int) := by omega
  clear hm hn h
  go_enter Try.func65, Try.ntmps65
  go_wp2_with fail
  refine (mok_w _ g _ _ HM.out).mono ?_
  rintro e w' ⟨rfl, rfl⟩
  go_wp2_with fail
  go_ret
  exact ⟨rfl, rfl⟩
set_option maxHeartbeats 1000000 in
theorem check_out (w : World) (g a : Nat) (cl : Bool) (D C : List Nat) (z : Int) (h : MemC w g a cl D C) (hz : z < 0 ∨ (D.length : Int) ≤ z) : Calls Try.prog 65 #[bptr g, .int .i64 z] w fun e w' => e = .returned (.int .i64 1) ∧ w = w' := by
  obtain ⟨fx, hm⟩ := h.mb
  have h1 : w.cell? ⟨g, 1, none⟩ = some (.slice (some ⟨a, 0, none⟩) D.length D.length) := hm.cell 1
  have HM := Lib.hid hm
  obtain ⟨n, hn⟩ : ∃ n, n = D.length := ⟨_, rfl⟩
  rw [← hn] at h1 hz
  clear hm hn h
  by_cases h0 : z < 0
  · clear hz
    go_enter Try.func65, Try.ntmps65
    go_wp2_with fail
    refine (mok_w _ g _ _ HM.out).mono ?_
    rintro e w' ⟨rfl, rfl⟩
    go_wp2_with fail
    go_ret
    exact ⟨rfl, rfl⟩
  · have hz2 : (n : Int) ≤ z := by omega
    clear hz
    go_enter Try.func65, Try.ntmps65
    go_wp2_with fail
    refine (mok_w _ g _ _ HM.out).mono ?_
    rintro e w' ⟨rfl, rfl⟩
    go_wp2_with fail
    go_ret
    exact ⟨rfl, rfl⟩
def RepPost (w : World) (g a : Nat) (cl : Bool) (D : List Nat) (i d : Nat) (e : Ending) (w' : World) : Prop :=
  ∃ (f : Int) (C' : List Nat), e = .returned (.int .i64 f) ∧ (f = 0 ∨ f = 1) ∧ MemC w' g a cl D C' ∧ C'[i]? = some (encW d) ∧ Keep w.heap.size [g, a] w w'
set_option maxHeartbeats 4000000 in
theorem repair_m (w : World) (g a : Nat) (cl : Bool) (D C : List Nat) (i d : Nat) (h : MemC w g a cl D C) (hi : D[i]? = some d) : Calls Try.prog 114 #[bptr g, .int .i64 (i : Int)] w (RepPost w g a cl D i d) := by
  obtain ⟨fx, hm⟩ := h.mb
  obtain ⟨c, hc, hd, hcw⟩ := h.cw i d hi
  have hil : i < D.length := (List.getElem?_eq_some_iff.1 hi).1
  have HM := Lib.hid hm
  have HH := Lib.hid h
  have HI := Lib.hid hi
  have HC := Lib.hid hc
  obtain ⟨n, hn⟩ : ∃ n, n = D.length := ⟨_, rfl⟩
  have h1 : w.cell? ⟨g, 1, none⟩ = some (.slice (some ⟨a, 0, none⟩) n n) := by rw [hn]; exact hm.cell 1
  have h2 : w.cell? ⟨a, i, none⟩ = some (.int .u64 (c : Int)) := by rw [h.cb.cell]; exact cdsC_at hc
  have hi1 : (i : Int) < (n : Int) := by omega
  have hnI : (n : Int) ≤ 1000000 := by have := h.len; omega
  clear hm h hi hc hil hn
  rcases hcw with rfl | ⟨hcl, b, hb, rfl⟩
  · go_enter Try.func114, Try.ntmps114
    go_wp2_with fail
    refine (repair_clean _ d hd).mono ?_
    rintro e W1 ⟨rfl, hk⟩
    have K1 := Lib.hid hk
    clear hk
    go_wp2_with fail
    go_ret
    exact ⟨0, C, rfl, .inl rfl, HH.out.keepS K1.out (by simp) (by simp), HC.out, K1.out.mono (Nat.le_refl _) (by simp)⟩
  · go_enter Try.func114, Try.ntmps114
    go_wp2_with fail
    refine (repair_fix _ d b hd hb).mono ?_
    rintro e W1 ⟨rfl, hk⟩
    have K1 := Lib.hid hk
    have hm1 := HM.out.keepS hk (by simp)
    have ha1 := HH.out.cb.keepS hk (by simp)
    have x1 : W1.cell? ⟨g, 1, none⟩ = some (.slice (some ⟨a, 0, none⟩) n n) := by rw [hm1.cell 1, ← HM.out.cell 1]; exact h1
    have x2 : W1.cell? ⟨a, i, none⟩ = some (.int .u64 ((encW d ^^^ 2 ^ b : Nat) : Int)) := by rw [ha1.cell]; exact cdsC_at HC.out
    have z2 := ha1.frozen i
    clear hk h1 h2
    go_upto_region 4 with fail
    have hm2 := hm1.far (p := ⟨a, i, none⟩) HH.out.ga (.int .u64 (encW d : Int))
    have ha2 := ha1.set_ i (.int .u64 (encW d : Int))
    have k2 : Keep w.heap.size [g, a] w (W1.setCell ⟨a, i, none⟩ (.int .u64 (encW d : Int))) := (K1.out.mono (Nat.le_refl _) (by simp)).setS (g := a) (by simp)
    rw [cdsC_set] at ha2
    obtain ⟨W2, hW2⟩ : ∃ W, W = W1.setCell ⟨a, i, none⟩ (.int .u64 (encW d : Int)) := ⟨_, rfl⟩
    rw [← hW2] at hm2 ha2 k2 ⊢
    clear hW2 x1 x2 z2 hm1 ha1
    have x3 : W2.cell? ⟨g, 2, none⟩ = some (.int .i64 fx) := hm2.cell 2
    have z3 := hm2.frozen 2
    have HM2 := Lib.hid hm2
    have HA2 := Lib.hid ha2
    have K2 := Lib.hid k2
    clear hm2 ha2 k2
    go_wp2_with fail
    go_ret
    have hlt : i < C.length := (List.getElem?_eq_some_iff.1 HC.out).1
    refine ⟨1, C.set i (encW d), rfl, .inr rfl, ⟨⟨_, HM2.out.set_ 2 _⟩, HA2.out.far (p := ⟨g, 2, none⟩) (Ne.symm HH.out.ga) _, by rw [List.length_set]; exact HH.out.le, fun j d' hj => ?_, HH.out.ga, HH.out.len⟩, by rw [List.getElem?_set_self hlt], K2.out.setS (g := g) (by simp)⟩
    by_cases hji : j = i
    · subst hji
      rw [HI.out] at hj
      cases hj
      exact ⟨encW d, by rw [List.getElem?_set_self hlt], hd, .inl rfl⟩
    · obtain ⟨c', hc', hw'⟩ := HH.out.cw j d' hj
      exact ⟨c', by rw [List.getElem?_set_ne (Ne.symm hji)]; exact hc', hw'⟩
set_option maxHeartbeats 4000000 in
theorem read_m (w : World) (g a : Nat) (cl : Bool) (D C : List Nat) (i d : Nat) (h : MemC w g a cl D C) (hi : D[i]? = some d) : Calls Try.prog 58 #[bptr g, .int .i64 (i : Int)] w fun e w' =>
    e = .returned (.tuple #[.int .u32 (d : Int), .int .i64 0]) ∧ ∃ C', MemC w' g a cl D C' ∧ Keep w.heap.size [g, a] w w' := by
  have hil : i < D.length := (List.getElem?_eq_some_iff.1 hi).1
  obtain ⟨_, _, hd, _⟩ := h.cw i d hi
  have HH := Lib.hid h
  have HI := Lib.hid hi
  have HL := Lib.hid hil
  clear h hi hil
  go_enter Try.func58, Try.ntmps58
  go_wp2_with fail
  refine (check_in _ g a cl D C i HH.out HL.out).mono ?_
  rintro e w' ⟨rfl, rfl⟩
  go_wp2_with fail
  refine (repair_m _ g a cl D C i d HH.out HI.out).mono ?_
  rintro e W1 ⟨f, C1, rfl, hf, hm, hc, hk⟩
  have HM := Lib.hid hm
  have K1 := Lib.hid hk
  have hf2 : ¬ f = 2 := by omega
  have hfb : (f == 2) = false := by rw [beq_eq_false_iff_ne]; exact hf2
  obtain ⟨fx, hb⟩ := hm.mb
  obtain ⟨n, hn⟩ : ∃ n, n = D.length := ⟨_, rfl⟩
  have x1 : W1.cell? ⟨g, 1, none⟩ = some (.slice (some ⟨a, 0, none⟩) n n) := by rw [hn]; exact hb.cell 1
  have x2 : W1.cell? ⟨a, i, none⟩ = some (.int .u64 (encW d : Int)) := by rw [hm.cb.cell]; exact cdsC_at hc
  have hi1 : (i : Int) < (n : Int) := by have := HL.out; omega
  have hnI : (n : Int) ≤ 1000000 := by have := hm.len; omega
  clear hm hc hk hb hn hf
  go_wp2_with fail
  refine (decode_clean _ d hd).mono ?_
  rintro e W2 ⟨rfl, hk⟩
  have K2 := Lib.hid hk
  clear hk
  go_wp2_with fail
  go_ret2
  exact ⟨rfl, C1, HM.out.keepS K2.out (by simp) (by simp), K1.out.trans (K2.out.mono K1.out.size (by simp))⟩
set_option maxHeartbeats 1000000 in
theorem read_out (w : World) (g a : Nat) (cl : Bool) (D C : List Nat) (z : Int) (h : MemC w g a cl D C) (hz : z < 0 ∨ (D.length : Int) ≤ z) : Calls Try.prog 58 #[bptr g, .int .i64 z] w fun e w' =>
    e = .returned (.tuple #[.int .u32 0, .int .i64 1]) ∧ w = w' := by
  have HH := Lib.hid h
  clear h
  go_enter Try.func58, Try.ntmps58
  go_wp2_with fail
  refine (check_out _ g a cl D C z HH.out hz).mono ?_
  rintro e w' ⟨rfl, rfl⟩
  go_wp2_with fail
  go_ret2
  exact ⟨rfl, rfl⟩
end Go.Proofs.Ytfkbcflgbjncdaa
