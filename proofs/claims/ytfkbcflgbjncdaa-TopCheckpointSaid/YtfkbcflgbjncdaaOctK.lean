/- (*Writer).Blob: its contract. -/
import Derived.Test.YtfkbcflgbjncdaaOctP
namespace Go.Proofs.Ytfkbcflgbjncdaa
set_option linter.unusedVariables false
set_option linter.unusedSimpArgs false
open Go.RowKit
set_option maxRecDepth 10000 in
set_option maxHeartbeats 2000000 in
theorem wblob_q (w : World) (g : Nat) (A : Option Addr) (L : List Int) (X : Option Addr) (m c : Nat) (B : List Int) (hm : m ≤ 100000000) (hL : L.length ≤ 100000000) (hw : Wr w g A L)
    (hv : Vw w X m 1 (octs B)) (hX : 0 < m → ∀ x, x ∈ blks X → x ∉ g :: blks A) :
    Calls Try.prog 110 #[bptr g, .slice X m c] w fun e w' =>
      e = .returned (bptr g) ∧ ∃ A', Wr w' g A' (L ++ vn (zz m).toNat ++ B) ∧ Keep w.heap.size (g :: blks A) w w' ∧ ∀ x, x ∈ blks A' → x ∈ blks A ∨ w.heap.size ≤ x := by
  have HW := Lib.hid hw
  obtain ⟨m0, c0, hm0, hb, hs⟩ := hw
  have HB := Lib.hid hb
  have HV := Lib.hid hv
  clear hm0 hb hs hv
  go_enter Try.func110, Try.ntmps110
  go_wp2_with fail
  refine (wok_any _ g _ HB.out).mono ?_
  rintro e w' ⟨rfl, rfl⟩
  go_wp2_with fail
  refine (wint_any _ g A L (m : Int) (by omega) (by omega) (by omega) HW.out).mono ?_
  rintro e w1 ⟨rfl, A1, hw1, hk1, hb1⟩
  have HV1 := Lib.hid (HV.out.keepP hk1 hX)
  have HW1 := Lib.hid hw1
  obtain ⟨m1, c1, hm1, hb2, hs1⟩ := hw1
  have HM1 := Lib.hid hm1
  have HB2 := Lib.hid hb2
  have HS1 := Lib.hid hs1
  have HK1 := Lib.hid hk1
  have HBL := Lib.hid hb1
  have d1 : w1.cell? ⟨g, 1, none⟩ = some (.slice A1 m1 c1) := hb2.cell 1
  have f1 := hb2.frozen 1
  have hl10 : (vn (zz m).toNat).length ≤ 10 := vn_len10 _ (by have := zz_nonneg (m : Int) (by omega) (by omega); omega)
  have hm1' : m1 ≤ 200000000 := by rw [hm1]; simp; omega
  clear hm1 hb2 hs1 hk1 hb1 hl10
  obtain ⟨i0, hi0, hz0, hz1, hz2⟩ := info_parts infoU8
  go_wp2_with (at_builtin
               refine wpList_appV _ rfl (.tmp 16) (.tmp 17) 35 rfl 5 i0 _ 1 1 Try.underlying35 hi0 hz0 hz1 hz2 rfl (by omega) A1 m1 c1 (octs (L ++ vn (zz m).toNat)) rfl (by exact HS1.out) X m c (octs B) rfl HV1.out (oct_one B) (by omega) (by omega) ?_
               intro A2 c2 w3 hs3 hk3 hb3
               have HS3 := Lib.hid hs3
               have HK3 := Lib.hid hk3
               have HB3 := Lib.hid hb3
               have hb4 := HB2.out.keepS hk3 (HS1.out.ne_blk HB2.out (by decide))
               have f4 := hb4.frozen 1
               have d4 : w3.cell? ⟨g, 1, none⟩ = some (.slice A1 m1 c1) := hb4.cell 1
               have HB4 := Lib.hid hb4
               clear hs3 hk3 hb3 hb4)
  go_ret
  have hz := HK1.out.size
  have hA2 : ∀ x, x ∈ blks A2 → x ∈ blks A ∨ w.heap.size ≤ x := fun x hx => by
    rcases HB3.out x hx with h | h
    · exact HBL.out x h
    · right; omega
  refine ⟨rfl, A2, ⟨m1 + m, c2, ?_, HB4.out.set_ 1 _, ?_⟩, ?_, hA2⟩
  · rw [HM1.out]; have := HV1.out.1; simp [octs] at this ⊢; omega
  · refine Sl.far ?_ _ (HS3.out.ne_blk HB4.out (by decide))
    simpa [octs] using HS3.out
  · refine Keep.setS ?_ (by simp)
    exact HK1.out.trans (HK3.out.mono hz (fun x hx hm => by
      rcases HBL.out x hm with h | h
      · exact List.mem_cons_of_mem _ h
      · omega))
theorem wblob_any (w : World) (g : Nat) (A : Option Addr) (L : List Int) (X : Option Addr) (m c : Nat) (B : List Int) (hm : m ≤ 100000000) (hL : L.length ≤ 100000000) (hw : Wr w g A L)
    (hv : Vw w X m 1 (octs B)) (hX : ∀ x, x ∈ blks X → x ∉ g :: blks A) :
    Calls Try.prog 110 #[bptr g, .slice X m c] w fun e w' =>
      e = .returned (bptr g) ∧ ∃ A', Wr w' g A' (L ++ vn (zz m).toNat ++ B) ∧ Keep w.heap.size (g :: blks A) w w' ∧ ∀ x, x ∈ blks A' → x ∈ blks A ∨ w.heap.size ≤ x :=
  wblob_q w g A L X m c B hm hL hw hv (fun _ => hX)
end Go.Proofs.Ytfkbcflgbjncdaa
