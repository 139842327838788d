/- (*Reader).Blob, Left, Failed, End; readers and writers that are nil or zero: their contracts. -/
import Derived.Test.YtfkbcflgbjncdaaOctH
namespace Go.Proofs.Ytfkbcflgbjncdaa
set_option linter.unusedVariables false
set_option linter.unusedSimpArgs false
open Go.RowKit
set_option maxHeartbeats 1000000 in
theorem rblob_failed (w : World) (g : Nat) (most : Int) (hr : Rf w g) :
    Calls Try.prog 69 #[bptr g, .int .i64 most] w fun e w' => e = .returned (.slice none 0 0) ∧ w = w' := by
  have HF := Lib.hid hr
  have HB : Hid (Blk w g 168 #[.bool true, .bool true, .slice none 0 0]) := hr
  clear hr
  go_enter Try.func69, Try.ntmps69
  go_wp2_with fail
  refine (rcount_failed _ g most HF.out).mono ?_
  rintro e w' ⟨rfl, rfl⟩
  go_wp2_with fail
  refine (rok_any _ g _ true HB.out).mono ?_
  rintro e w' ⟨rfl, rfl⟩
  go_wp2_with fail
  go_ret
  exact ⟨rfl, rfl⟩
/-- what Blob takes -/
def tkB (L : List Int) (most : Int) : List Int × Nat := match tkC L most with
  | (n, k) => if k = 0 ∨ ((L.length - k : Nat) : Int) < n then ([], 0) else ((L.drop k).take n.toNat, k + n.toNat)
theorem tkC_yes {L : List Int} {most n : Int} {k : Nat} (h : tkC L most = (n, k)) (hk : k ≠ 0) : tkI L = (n, k) ∧ 0 ≤ n ∧ n ≤ most := by
  obtain ⟨j, k', hjk⟩ : ∃ j k', tkI L = (j, k') := ⟨_, _, rfl⟩
  unfold tkC at h
  rw [hjk] at h
  simp only at h
  split at h
  · cases h; exact absurd rfl hk
  · cases h; exact ⟨hjk, by omega, by omega⟩
set_option maxHeartbeats 2000000 in
theorem rblob_no (w : World) (g : Nat) (X : Option Addr) (L B : List Int) (most : Int) (hO : Oct L) (hr : Rd w g X L) (h : tkB L most = (B, 0)) :
    Calls Try.prog 69 #[bptr g, .int .i64 most] w fun e w' => e = .returned (.slice none 0 0) ∧ Rf w' g ∧ Keep w.heap.size [g] w w' := by
  obtain ⟨n, k, hnk⟩ : ∃ n k, tkC L most = (n, k) := ⟨_, _, rfl⟩
  have HR := Lib.hid hr
  have HO := Lib.hid hO
  have HJ := Lib.hid hnk
  unfold tkB at h
  rw [hnk] at h
  simp only at h
  by_cases hk : k = 0
  · subst hk
    clear h hnk hr hO
    go_enter Try.func69, Try.ntmps69
    go_wp2_with fail
    refine (rcount_no _ g X L _ _ HO.out HR.out HJ.out).mono ?_
    rintro e w1 ⟨rfl, hf, hk⟩
    have HF := Lib.hid hf
    have HB : Hid (Blk w1 g 168 #[.bool true, .bool true, .slice none 0 0]) := hf
    have HK := Lib.hid hk
    clear hf hk
    go_wp2_with fail
    refine (rok_any _ g _ true HB.out).mono ?_
    rintro e w' ⟨rfl, rfl⟩
    go_wp2_with fail
    go_ret
    exact ⟨rfl, HF.out, HK.out⟩
  · have hbad : ((L.length - k : Nat) : Int) < n := by
      rcases Decidable.em (k = 0 ∨ ((L.length - k : Nat) : Int) < n) with h' | h'
      · omega
      · rw [if_neg h'] at h
        have h2 := congrArg Prod.snd h
        simp only at h2
        omega
    have HK0 := Lib.hid hk
    clear h hnk hr hO hk
    go_enter Try.func69, Try.ntmps69
    go_wp2_with fail
    refine (rcount_yes _ g X L _ _ _ HO.out HR.out HJ.out HK0.out).mono ?_
    rintro e w1 ⟨rfl, X', hr, hk, _⟩
    obtain ⟨m, c, hm, _, _, hb, _, _⟩ := hr
    have hmn : (m : Int) < n := by rw [hm]; simpa using hbad
    have d2 : w1.cell? ⟨g, 2, none⟩ = some (.slice X' m c) := hb.cell 2
    have HB := Lib.hid hb
    have HK := Lib.hid hk
    clear hk hb hm hbad
    go_wp2_with fail
    refine (rok_any _ g _ false HB.out).mono ?_
    rintro e w' ⟨rfl, rfl⟩
    go_wp2_with fail
    refine (rfail_any _ g false X' m c HB.out).mono ?_
    rintro e w2 ⟨rfl, hf, hk⟩
    have HF := Lib.hid hf
    have HK2 := Lib.hid hk
    clear hf hk
    go_wp2_with fail
    go_ret
    exact ⟨rfl, HF.out, HK.out.trans (HK2.out.mono HK.out.size (fun _ _ h => h))⟩
def BlobPost (w : World) (g : Nat) (X : Option Addr) (L B : List Int) (e : Ending) (w' : World) : Prop :=
  ∃ A n c X', e = .returned (.slice A n c) ∧ n = B.length ∧ Sl w' 5 1 A n c (octs B) ∧ Rd w' g X' L ∧ Keep w.heap.size [g] w w' ∧ blks X' = blks X ∧ ∀ x, x ∈ blks A → w.heap.size ≤ x
set_option maxRecDepth 100000 in
set_option maxHeartbeats 2000000 in
theorem rblob_yes (w : World) (g : Nat) (X : Option Addr) (L B : List Int) (most : Int) (k : Nat) (hO : Oct L) (hr : Rd w g X L) (hL : L.length ≤ 100000000) (h : tkB L most = (B, k)) (hk : k ≠ 0) :
    Calls Try.prog 69 #[bptr g, .int .i64 most] w (BlobPost w g X (L.drop k) B) := by
  obtain ⟨n, k1, hnk⟩ : ∃ n k1, tkC L most = (n, k1) := ⟨_, _, rfl⟩
  have HR := Lib.hid hr
  have HO := Lib.hid hO
  have HJ := Lib.hid hnk
  have h' : k1 ≠ 0 ∧ n ≤ ((L.length - k1 : Nat) : Int) ∧ B = (L.drop k1).take n.toNat ∧ k = k1 + n.toNat := by
    unfold tkB at h
    rw [hnk] at h
    simp only at h
    split at h
    · cases h; exact absurd rfl hk
    · cases h; exact ⟨by omega, by omega, rfl, rfl⟩
  obtain ⟨hk1, hle, rfl, rfl⟩ := h'
  have hn0 := (tkC_yes hnk hk1).2.1
  obtain ⟨N, rfl⟩ := Int.eq_ofNat_of_zero_le hn0
  have HK0 := Lib.hid hk1
  obtain ⟨i0, hi0, hz0, hz1, hz2⟩ := info_parts infoU8
  clear h hnk hr hO hk hk1 hn0
  go_enter Try.func69, Try.ntmps69
  go_wp2_with fail
  refine (rcount_yes _ g X L _ _ _ HO.out HR.out HJ.out HK0.out).mono ?_
  rintro e w1 ⟨rfl, X1, hr, hk, hx⟩
  have HX1 := Lib.hid hx
  obtain ⟨m, c, hm, hmc, hcm, hb, hv, hgx, hxf⟩ := hr
  have hmn : (N : Int) ≤ (m : Int) := by rw [hm]; simpa using hle
  have hml : m ≤ 100000000 := by rw [hm]; simp; omega
  have d2 : w1.cell? ⟨g, 2, none⟩ = some (.slice X1 m c) := hb.cell 2
  have f2 := hb.frozen 2
  have hmc' : (m : Int) ≤ (c : Int) := by omega
  have hnc' : (N : Int) ≤ (c : Int) := by omega
  have hcm' : (c : Int) ≤ 9223372036854775807 := by unfold maxLen at hcm; omega
  have HM := Lib.hid hm
  have HB := Lib.hid hb
  have HK := Lib.hid hk
  have HV := Lib.hid hv
  have HGX := Lib.hid hgx
  clear hk hb hm hle hx hv hgx
  rcases hxf with rfl | ⟨bx, ox, rfl⟩
  · exfalso
    obtain ⟨_, _, hkl, _⟩ := (tkI_sound L _ _ HO.out (tkC_yes HJ.out HK0.out).1 HK0.out).2
    obtain ⟨m0, c0, hm0, _, _, _, hv0, _, _⟩ := HR.out
    have hk1 := HK0.out
    obtain ⟨b, o, rfl, _⟩ := hv0.2 (by omega)
    have := HX1.out
    simp [blks] at this
  · have d3 : ∀ o : Obj, (w1.alloc o).cell? ⟨g, 2, none⟩ = some (.slice (some ⟨bx, ox, none⟩) m c) := fun o => (HB.out.alloc o).cell 2
    go_wp2_with fail
    refine (rok_any _ g _ false HB.out).mono ?_
    rintro e w' ⟨rfl, rfl⟩
    have hVT : Hid (Vw w1 (some ⟨bx, ox, none⟩) N 1 (octs ((L.drop k1).take N))) := by
      have := HV.out.take (k := N) (by omega)
      unfold Hid
      rwa [octs, List.map_take]
    by_cases hc : c = N
    · subst hc
      go_wp2_with (at_builtin
                   refine wpList_appV _ rfl (.tmp 22) (.tmp 28) 35 rfl 5 i0 _ 1 1 Try.underlying35 hi0 hz0 hz1 hz2 rfl (by omega) (some ⟨w1.heap.size, 0, none⟩) 0 0 [] rfl (World.ownsRow_made w1 #[] 0 (Nat.zero_le _) (by unfold maxLen; omega) rfl) (some ⟨bx, ox, none⟩) c c _ rfl (hVT.out.alloc _) (oct_one _) (by omega) (by omega) ?_
                   intro A2 c2 w3 hs3 hk3 hb3
                   have HS3 := Lib.hid hs3
                   have HK3 := Lib.hid hk3
                   have HB3 := Lib.hid hb3
                   have hb4 := (HB.out.alloc _).keepS hk3 (by have := HB.out.lt; simp [blks]; omega)
                   have f4 := hb4.frozen 2
                   have d4 : w3.cell? ⟨g, 2, none⟩ = some (.slice (some ⟨bx, ox, none⟩) m c) := hb4.cell 2
                   have HB4 := Lib.hid hb4
                   clear hs3 hk3 hb3 hb4)
      go_ret
      have hz := HK.out.size
      have hk : Keep w.heap.size [g] w w3 := (HK.out.alloc hz _).trans (HK3.out.mono (by simp; omega) (fun x hx hm => by simp [blks] at hm; omega))
      refine ⟨A2, c, c2, some ⟨bx, ox, none⟩, rfl, ?_, ?_, ?_, hk.set1, HX1.out, fun x hx => ?_⟩
      · have := HM.out; simp at this ⊢; omega
      · exact Sl.far (by simpa [octs] using HS3.out) _ (HS3.out.ne_blk HB4.out (by decide))
      · refine ⟨_, _, ?_, ?_, ?_, HB4.out.set_ 2 _, ?_, HGX.out, .inr ⟨_, _, rfl⟩⟩
        · have := HM.out; simp at this ⊢; omega
        · omega
        · unfold maxLen; omega
        · have e : L.drop (k1 + c) = (L.drop k1).drop c := by rw [List.drop_drop]
          rw [Int.toNat_natCast, e, List.drop_eq_nil_of_le (by rw [← HM.out]; omega)]
          exact Vw.zero _ _ _
      · rcases HB3.out x hx with h | h
        · simp [blks] at h; omega
        · simp at h; omega
    · go_wp2_with (at_builtin
                   refine wpList_appV _ rfl (.tmp 22) (.tmp 28) 35 rfl 5 i0 _ 1 1 Try.underlying35 hi0 hz0 hz1 hz2 rfl (by omega) (some ⟨w1.heap.size, 0, none⟩) 0 0 [] rfl (World.ownsRow_made w1 #[] 0 (Nat.zero_le _) (by unfold maxLen; omega) rfl) (some ⟨bx, ox, none⟩) N c _ rfl (hVT.out.alloc _) (oct_one _) (by omega) (by omega) ?_
                   intro A2 c2 w3 hs3 hk3 hb3
                   have HS3 := Lib.hid hs3
                   have HK3 := Lib.hid hk3
                   have HB3 := Lib.hid hb3
                   have hb4 := (HB.out.alloc _).keepS hk3 (by have := HB.out.lt; simp [blks]; omega)
                   have f4 := hb4.frozen 2
                   have d4 : w3.cell? ⟨g, 2, none⟩ = some (.slice (some ⟨bx, ox, none⟩) m c) := hb4.cell 2
                   have HB4 := Lib.hid hb4
                   clear hs3 hk3 hb3 hb4)
      go_ret
      have hz := HK.out.size
      have hk : Keep w.heap.size [g] w w3 := (HK.out.alloc hz _).trans (HK3.out.mono (by simp; omega) (fun x hx hm => by simp [blks] at hm; omega))
      refine ⟨A2, N, c2, some ⟨bx, ox + N, none⟩, rfl, ?_, ?_, ?_, hk.set1, HX1.out, fun x hx => ?_⟩
      · have := HM.out; simp at this ⊢; omega
      · exact Sl.far (by simpa [octs] using HS3.out) _ (HS3.out.ne_blk HB4.out (by decide))
      · refine ⟨_, _, ?_, ?_, ?_, HB4.out.set_ 2 _, ?_, HGX.out, .inr ⟨_, _, rfl⟩⟩
        · have := HM.out; simp at this ⊢; omega
        · omega
        · unfold maxLen; omega
        · have e : L.drop (k1 + N) = (L.drop k1).drop N := by rw [List.drop_drop]
          rw [Int.toNat_natCast, e]
          by_cases hmN : m = N
          · rw [List.drop_eq_nil_of_le (by rw [← HM.out]; omega), hmN, Nat.sub_self]
            exact Vw.zero _ _ _
          · have hbx : bx < w1.heap.size := by
              obtain ⟨b, o, he, hlt, _⟩ := HV.out.2 (by omega)
              cases he; exact hlt
            have h3 := ((HV.out.alloc _).keepS HK3.out (fun x hx => by simp [blks] at hx ⊢; omega)).drop (k := N) (by omega)
            rw [octs, ← List.map_drop] at h3
            exact h3.far _ HGX.out
      · rcases HB3.out x hx with h | h
        · simp [blks] at h; omega
        · simp at h; omega

/-! ### Left, Failed, End -/
set_option maxHeartbeats 1000000 in
theorem rend_failed (w : World) (g : Nat) (hr : Rf w g) :
    Calls Try.prog 72 #[bptr g] w fun e w' => e = .returned (.bool false) ∧ w = w' := by
  have HB : Hid (Blk w g 168 #[.bool true, .bool true, .slice none 0 0]) := hr
  clear hr
  go_enter Try.func72, Try.ntmps72
  go_wp2_with fail
  refine (rok_any _ g _ true HB.out).mono ?_
  rintro e w' ⟨rfl, rfl⟩
  go_wp2_with fail
  go_ret
  exact ⟨rfl, rfl⟩
set_option maxHeartbeats 1000000 in
theorem rend_yes (w : World) (g : Nat) (X : Option Addr) (L : List Int) (hr : Rd w g X L) :
    Calls Try.prog 72 #[bptr g] w fun e w' => e = .returned (.bool (L.length == 0)) ∧ w = w' := by
  obtain ⟨m, c, hm, hmc, hcm, hb, _, _⟩ := hr
  have d2 : w.cell? ⟨g, 2, none⟩ = some (.slice X m c) := hb.cell 2
  have HB := Lib.hid hb
  have HM := Lib.hid hm
  clear hb hmc hcm hm
  cases hc : (m == 0) with
  | true =>
    obtain rfl : m = 0 := by simpa using hc
    clear hc
    go_enter Try.func72, Try.ntmps72
    go_wp2_with fail
    refine (rok_any _ g _ false HB.out).mono ?_
    rintro e w' ⟨rfl, rfl⟩
    go_wp2_with fail
    go_ret
    exact ⟨by rw [← HM.out]; rfl, rfl⟩
  | false =>
    have h0 : ((m : Int) == 0) = false := beq_false_of_ne (by have : m ≠ 0 := by simpa using hc
                                                              omega)
    have HC := Lib.hid hc
    clear hc
    go_enter Try.func72, Try.ntmps72
    go_wp2_with fail
    refine (rok_any _ g _ false HB.out).mono ?_
    rintro e w' ⟨rfl, rfl⟩
    go_wp2_with fail
    go_ret
    exact ⟨by rw [← HM.out, HC.out]; rfl, rfl⟩

/-! ### nil and zero -/
set_option maxHeartbeats 400000 in
theorem wok_nil (w : World) : Calls Try.prog 104 #[.pointer none] w fun e w' => e = .returned (.bool false) ∧ w = w' := by
  go_enter Try.func104, Try.ntmps104
  go_wp2_with fail
  go_ret
  exact ⟨rfl, rfl⟩
set_option maxHeartbeats 400000 in
theorem rok_nil (w : World) : Calls Try.prog 105 #[.pointer none] w fun e w' => e = .returned (.bool false) ∧ w = w' := by
  go_enter Try.func105, Try.ntmps105
  go_wp2_with fail
  go_ret
  exact ⟨rfl, rfl⟩
set_option maxHeartbeats 400000 in
theorem rok_zero (w : World) (g : Nat) (u v : Value) (hb : Blk w g 168 #[.bool false, u, v]) : Calls Try.prog 105 #[bptr g] w fun e w' => e = .returned (.bool false) ∧ w = w' := by
  have d0 : w.cell? ⟨g, 0, none⟩ = some (.bool false) := hb.cell 0
  clear hb
  go_enter Try.func105, Try.ntmps105
  go_wp2_with fail
  go_ret
  exact ⟨rfl, rfl⟩
set_option maxHeartbeats 400000 in
theorem wint_nil (w : World) (n : Int) : Calls Try.prog 109 #[.pointer none, .int .i64 n] w fun e w' => e = .returned (.pointer none) ∧ w = w' := by
  go_enter Try.func109, Try.ntmps109
  go_wp2_with fail
  refine (wok_nil _).mono ?_
  rintro e w' ⟨rfl, rfl⟩
  go_wp2_with fail
  go_ret
  exact ⟨rfl, rfl⟩
set_option maxHeartbeats 400000 in
theorem wbytes_nil (w : World) : Calls Try.prog 51 #[.pointer none] w fun e w' => e = .returned (.slice none 0 0) ∧ w = w' := by
  go_enter Try.func51, Try.ntmps51
  go_wp2_with fail
  refine (wok_nil _).mono ?_
  rintro e w' ⟨rfl, rfl⟩
  go_wp2_with fail
  go_ret
  exact ⟨rfl, rfl⟩
set_option maxHeartbeats 400000 in
theorem rint_nil (w : World) : Calls Try.prog 68 #[.pointer none] w fun e w' => e = .returned (.int .i64 0) ∧ w = w' := by
  go_enter Try.func68, Try.ntmps68
  go_wp2_with fail
  refine (rok_nil _).mono ?_
  rintro e w' ⟨rfl, rfl⟩
  go_wp2_with fail
  go_ret
  exact ⟨rfl, rfl⟩
set_option maxHeartbeats 400000 in
theorem rend_nil (w : World) : Calls Try.prog 72 #[.pointer none] w fun e w' => e = .returned (.bool false) ∧ w = w' := by
  go_enter Try.func72, Try.ntmps72
  go_wp2_with fail
  refine (rok_nil _).mono ?_
  rintro e w' ⟨rfl, rfl⟩
  go_wp2_with fail
  go_ret
  exact ⟨rfl, rfl⟩
set_option maxHeartbeats 400000 in
theorem rend_zero (w : World) (g : Nat) (u v : Value) (hb : Blk w g 168 #[.bool false, u, v]) : Calls Try.prog 72 #[bptr g] w fun e w' => e = .returned (.bool false) ∧ w = w' := by
  go_enter Try.func72, Try.ntmps72
  go_wp2_with fail
  refine (rok_zero _ g u v hb).mono ?_
  rintro e w' ⟨rfl, rfl⟩
  go_wp2_with fail
  go_ret
  exact ⟨rfl, rfl⟩
end Go.Proofs.Ytfkbcflgbjncdaa
