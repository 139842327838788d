/- The contracts of Encode of the report and of its reference. -/
import Derived.Test.YtfkbcflgbjncdaaVeA
import Derived.Test.YtfkbcflgbjncdaaOctW
namespace Go.Proofs.Ytfkbcflgbjncdaa
set_option linter.unusedVariables false
set_option linter.unusedSimpArgs false
open Go.RowKit
def enc (a : Ak) : List Int := [a.src, a.num / 256, a.num % 256, a.stg, a.cod]
theorem enc_be (a : Ak) (h : a.valid = true) : ((([] ++ be a.src 1) ++ be a.num 2) ++ be a.stg 1) ++ be a.cod 1 = enc a := by
  have h' := (valid_iff a).1 h
  simp only [be, enc, List.nil_append, List.cons_append]
  congr 1
  · omega
  · congr 1
    · omega
    · congr 1
      · omega
      · congr 1
        · omega
        · congr 1
          omega
theorem abox4 {w : World} {b : Nat} {a : Ak} (h : Blk w b 39 (acells a)) :
    w.cell? ⟨b, 0, none⟩ = some (.int .i64 a.src) ∧ w.cell? ⟨b, 1, none⟩ = some (.int .i64 a.num) ∧ w.cell? ⟨b, 2, none⟩ = some (.int .i64 a.stg) ∧ w.cell? ⟨b, 3, none⟩ = some (.int .i64 a.cod) :=
  ⟨h.cell 0, h.cell 1, h.cell 2, h.cell 3⟩
def EncPost (w : World) (a : Ak) (e : Ending) (w' : World) : Prop :=
  ∃ A c, e = .returned (.tuple #[.slice A 5 c, .int .i64 0]) ∧ Sl w' 5 1 A 5 c (octs (enc a)) ∧ Keep w.heap.size [] w w' ∧ ∀ x, x ∈ blks A → w.heap.size ≤ x

set_option maxHeartbeats 2000000 in
theorem encode_no (w : World) (a : Ak) (h : a.valid = false) :
    Calls Try.prog 12 #[aagg a] w fun e w' => e = .returned (.tuple #[.slice none 0 0, .int .i64 1]) ∧ Keep w.heap.size [] w w' := by
  have HV := Lib.hid h
  clear h
  go_enter Try.func12, Try.ntmps12
  go_wp2_with fail
  refine (valid_v _ a false HV.out).mono ?_
  rintro e w' ⟨rfl, rfl⟩
  go_wp2_with fail
  go_ret2
  exact ⟨rfl, ((Keep.refl _ _ w).alloc (Nat.le_refl _) _).alloc (by simp) _⟩

set_option maxHeartbeats 4000000 in
theorem encode_yes (w : World) (a : Ak) (h : a.valid = true) : Calls Try.prog 12 #[aagg a] w (EncPost w a) := by
  obtain ⟨a1, a2, a3, a4, a5, a6, a7, a8⟩ := (valid_iff a).1 h
  have HV := Lib.hid h
  have HE := Lib.hid (enc_be a h)
  have u1 := u64_in a.src (by omega) (by omega)
  have u2 := u64_in a.num (by omega) (by omega)
  have u3 := u64_in a.stg (by omega) (by omega)
  have u4 := u64_in a.cod (by omega) (by omega)
  clear h
  go_enter Try.func12, Try.ntmps12
  go_wp2_with fail
  refine (valid_v _ a true HV.out).mono ?_
  rintro e w0 ⟨rfl, hw⟩
  have H0 : Hid (Blk w0 w.heap.size 39 (acells a)) := by rw [← hw]; exact (Blk.new w _ _).alloc _
  have K0 : Hid (Keep w.heap.size [] w w0) := by rw [← hw]; exact ((Keep.refl _ _ w).alloc (Nat.le_refl _) _).alloc (by simp) _
  have d0 := abox4 H0.out
  clear hw
  go_wp2_with fail
  go_region_held3 (fun w' => w'.cell? ⟨w.heap.size, 0, none⟩ = some (.int .i64 a.src) ∧ w'.cell? ⟨w.heap.size, 1, none⟩ = some (.int .i64 a.num) ∧ w'.cell? ⟨w.heap.size, 2, none⟩ = some (.int .i64 a.stg) ∧ w'.cell? ⟨w.heap.size, 3, none⟩ = some (.int .i64 a.cod))
    (first | exact d0 | exact abox4 W1.out.box | exact abox4 W2.out.box | exact abox4 W3.out.box)
    (first
      | (go_at_call 49
         refine (wnew_any _).mono ?_
         rintro e w1 ⟨g, rfl, hg, hw, hk⟩
         have hk' := hk.undrew
         have W1 : Hid (WS w w1 g none [] 39 (acells a)) := ⟨K0.out.chain0 (Nat.le_refl _) hk', hw, Nat.lt_of_lt_of_le H0.out.lt hg, by simp [blks], H0.out.keepS hk' (by simp)⟩
         clear hg hw hk hk')
      | (go_at_call_of 50 (Value.int IntKind.u64 a.src)
         refine (wuint_z _ g none [] a.src 1 1 rfl (by omega) (by omega) (by omega) (by omega) (by exact W1.out.wr) (by simp)).mono ?_
         rintro e w2 ⟨rfl, A2, hw, hk, hb⟩
         have W2 := Lib.hid (W1.out.next hw hk hb)
         clear hw hk hb)
      | (go_at_call_of 50 (Value.int IntKind.u64 a.num)
         refine (wuint_z _ g A2 _ a.num 2 2 rfl (by omega) (by omega) (by omega) (by omega) (by exact W2.out.wr) (by simp [be_length])).mono ?_
         rintro e w3 ⟨rfl, A3, hw, hk, hb⟩
         have W3 := Lib.hid (W2.out.next hw hk hb)
         clear hw hk hb))
  have d3 := abox4 W3.out.box
  go_wp2_with fail
  go_region_held3 (fun w' => w'.cell? ⟨w.heap.size, 0, none⟩ = some (.int .i64 a.src) ∧ w'.cell? ⟨w.heap.size, 1, none⟩ = some (.int .i64 a.num) ∧ w'.cell? ⟨w.heap.size, 2, none⟩ = some (.int .i64 a.stg) ∧ w'.cell? ⟨w.heap.size, 3, none⟩ = some (.int .i64 a.cod))
    (first | exact d3 | exact abox4 W4.out.box | exact abox4 W5.out.box | exact abox4 H6.out)
    (first
      | (go_at_call_of 50 (Value.int IntKind.u64 a.stg)
         refine (wuint_z _ g A3 _ a.stg 1 1 rfl (by omega) (by omega) (by omega) (by omega) (by exact W3.out.wr) (by simp [be_length])).mono ?_
         rintro e w4 ⟨rfl, A4, hw, hk, hb⟩
         have W4 := Lib.hid (W3.out.next hw hk.undrew hb)
         clear hw hk hb)
      | (go_at_call_of 50 (Value.int IntKind.u64 a.cod)
         refine (wuint_z _ g A4 _ a.cod 1 1 rfl (by omega) (by omega) (by omega) (by omega) (by exact W4.out.wr) (by simp [be_length])).mono ?_
         rintro e w5 ⟨rfl, A5, hw, hk, hb⟩
         have W5 := Lib.hid (W4.out.next hw hk hb)
         clear hw hk hb)
      | (go_at_call 51
         refine (wbytes_any _ g A5 _ (by exact W5.out.wr) (by simp [be_length])).mono ?_
         rintro e w6 ⟨A6, n6, c6, rfl, hn, hs, hk, hb⟩
         have HS6 := Lib.hid hs
         have HN6 := Lib.hid hn
         have HB6 := Lib.hid hb
         have H6 := Lib.hid (W5.out.box.keepS hk (by simp))
         have K6 : Hid (Keep w.heap.size [] w w6) := W5.out.keep.chain0 (Nat.le_refl _) hk
         have Z6 : Hid (w.heap.size ≤ w5.heap.size) := W5.out.keep.size
         clear hn hs hk hb))
  go_wp2_with fail
  go_ret2
  have hn5 : n6 = 5 := by rw [HN6.out]; simp [be_length]
  subst hn5
  refine ⟨A6, c6, rfl, ?_, K6.out, fun x hx => Nat.le_trans Z6.out (HB6.out x hx)⟩
  rw [← HE.out]
  exact HS6.out

/-! ### the reference -/
theorem u8_in (n : Int) (h0 : 0 ≤ n) (h1 : n ≤ 255) : IntKind.u8.wrap n = n := by
  rw [u8_wrap]; omega
end Go.Proofs.Ytfkbcflgbjncdaa
