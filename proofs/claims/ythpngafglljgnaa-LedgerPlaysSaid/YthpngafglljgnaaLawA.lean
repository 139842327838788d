/- The law package of the ledger: awake; a slice of acts. -/
import Derived.Test.YthpngafglljgnaaWalkA
namespace Go.Proofs.Ythpngafglljgnaa
set_option linter.unusedVariables false
set_option linter.unusedSimpArgs false
open Go.RowKit
def LawPost (w : World) (e : Ending) (w' : World) : Prop := e = .returned (.bool true) ∧ Keep w.heap.size [] w w'
set_option maxHeartbeats 400000 in
theorem image_nil (w : World) : Calls Try.prog 15 #[.pointer none] w fun e w' => e = .returned (.slice none 0 0) ∧ w = w' := by
  go_enter Try.func15, Try.ntmps15
  go_wp2_with fail
  refine (lok_nil _).mono ?_
  rintro e w' ⟨rfl, rfl⟩
  go_wp2_with fail
  go_ret
  exact ⟨rfl, rfl⟩
set_option maxHeartbeats 400000 in
theorem image_zero (w : World) (g : Nat) (h0 : w.cell? ⟨g, 0, none⟩ = some (.bool false)) : Calls Try.prog 15 #[bptr g] w fun e w' => e = .returned (.slice none 0 0) ∧ w = w' := by
  have H0 := Lib.hid h0
  clear h0
  go_enter Try.func15, Try.ntmps15
  go_wp2_with fail
  refine (lok_zero _ g H0.out).mono ?_
  rintro e w' ⟨rfl, rfl⟩
  go_wp2_with fail
  go_ret
  exact ⟨rfl, rfl⟩
def aL1 : List Rc := (markL zeroL 1 1).1
def aL2 : List Rc := (markL aL1 1 70).1
theorem aw1 : markL zeroL 1 1 = (aL1, 0) := Prod.ext rfl (by decide +kernel)
theorem aw2 : markL aL1 1 70 = (aL2, 0) := Prod.ext rfl (by decide +kernel)
theorem aw3 : markL aL2 1 70 = (aL2, 9) := Prod.ext (by
  have h : seenB ⟨70, (match aL2[(1 : Nat)]? with | some r => r.m | none => 0)⟩ 70 = true := by decide +kernel
  have hr : ∃ r, aL2[(1 : Nat)]? = some r ∧ seenB r 70 = true := by
    have h1 : (aL2[(1 : Nat)]?).isSome = true := by decide +kernel
    obtain ⟨r, hr⟩ := Option.isSome_iff_exists.1 h1
    refine ⟨r, hr, ?_⟩
    have h2 : (match aL2[(1 : Nat)]? with | some r => seenB r 70 | none => false) = true := by decide +kernel
    rw [hr] at h2
    exact h2
  obtain ⟨r, h1, h2⟩ := hr
  have := markL_at (L := aL2) (i := 1) (n := 70) (r := r) (by decide) (by decide) h1
  rw [h2] at this
  exact congrArg Prod.fst this) (by decide +kernel)
theorem aw4 : newestL aL2 1 = 70 := by decide +kernel
theorem aw5 : seenL aL2 1 6 = true := by decide +kernel
theorem aw6 : seenL aL2 1 7 = false := by decide +kernel
set_option maxHeartbeats 4000000 in
theorem awake_any (w : World) : Calls Try.prog 8 #[] w (LawPost w) := by
  go_enter Try.func8, Try.ntmps8
  go_wp2_with fail
  refine (new_any _).mono ?_
  rintro e w1 ⟨g, rfl, hg, hL, hk⟩
  have HG : Hid (w.heap.size ≤ g) := Nat.le_of_eq hg.symm
  have K1 := Lib.hid hk
  have L1 := Lib.hid hL
  clear hg hL hk
  go_wp2_with fail
  refine (mark_any _ g zeroL 1 1 _ aw1 L1.out).mono ?_
  rintro e w2 ⟨rfl, hL, hk⟩
  have K2 : Hid (Keep w.heap.size [] w w2) := K1.out.chain1 (Nat.le_refl _) hk HG.out
  have L2 := Lib.hid hL
  clear hL hk
  go_wp2_with fail
  refine (mark_any _ g aL1 1 70 _ aw2 L2.out).mono ?_
  rintro e w3 ⟨rfl, hL, hk⟩
  have K3 : Hid (Keep w.heap.size [] w w3) := K2.out.chain1 (Nat.le_refl _) hk HG.out
  have L3 := Lib.hid hL
  clear hL hk
  go_wp2_with fail
  refine (mark_any _ g aL2 1 70 _ aw3 L3.out).mono ?_
  rintro e w4 ⟨rfl, hL, hk⟩
  have K4 : Hid (Keep w.heap.size [] w w4) := K3.out.chain1 (Nat.le_refl _) hk HG.out
  have L4 := Lib.hid hL
  clear hL hk
  go_wp2_with fail
  refine (newest_any _ g aL2 1 70 aw4 (L4.out.alloc _)).mono ?_
  rintro e w5 ⟨rfl, hw⟩
  have hz : w5.cell? ⟨w4.heap.size, 0, none⟩ = some (.bool false) := by rw [← hw]; exact (Blk.new w4 _ _).cell 0
  have hlt : w4.heap.size < w5.heap.size := by rw [← hw]; simp
  have L5 : Hid (Led w5 g aL2) := by rw [← hw]; exact L4.out.alloc _
  have K5 : Hid (Keep w.heap.size [] w w5) := by rw [← hw]; exact K4.out.alloc K4.out.size _
  have HZ5 := Lib.hid hz
  have HLT := Lib.hid hlt
  clear hw hz hlt
  go_wp2_with fail
  refine (seenl_any _ g aL2 1 6 true aw5 L5.out).mono ?_
  rintro e w6 ⟨rfl, hk⟩
  have L6 := Lib.hid (L5.out.keepS hk (by simp))
  have K6 : Hid (Keep w.heap.size [] w w6) := K5.out.chain0 (Nat.le_refl _) hk
  have HZ6 := Lib.hid ((hk.cell (p := ⟨w4.heap.size, 0, none⟩) HLT.out (by simp)).trans HZ5.out)
  have HLT6 : Hid (w4.heap.size < w6.heap.size) := Nat.lt_of_lt_of_le HLT.out hk.size
  clear hk
  go_wp2_with fail
  refine (seenl_any _ g aL2 1 7 false aw6 L6.out).mono ?_
  rintro e w7 ⟨rfl, hk⟩
  have K7 : Hid (Keep w.heap.size [] w w7) := K6.out.chain0 (Nat.le_refl _) hk
  have HZ7 := Lib.hid ((hk.cell (p := ⟨w4.heap.size, 0, none⟩) HLT6.out (by simp)).trans HZ6.out)
  clear hk
  go_wp2_with fail
  refine (seenl_nil _ _ _).mono ?_
  rintro e w' ⟨rfl, rfl⟩
  go_wp2_with fail
  refine (seenl_zero _ _ _ _ HZ7.out).mono ?_
  rintro e w' ⟨rfl, rfl⟩
  go_wp2_with fail
  refine (mark_nil _ _ _).mono ?_
  rintro e w' ⟨rfl, rfl⟩
  go_wp2_with fail
  refine (image_nil _).mono ?_
  rintro e w' ⟨rfl, rfl⟩
  go_wp2_with fail
  refine (image_zero _ _ HZ7.out).mono ?_
  rintro e w' ⟨rfl, rfl⟩
  go_wp2_with fail
  refine (newest_nil _ _).mono ?_
  rintro e w' ⟨rfl, rfl⟩
  go_wp2_with fail
  go_ret
  exact ⟨rfl, K7.out⟩
/-- an act -/
structure Ac where
  k : Int
  s : Int
  n : Int
def At3 (w : World) (b o : Nat) (a : Ac) : Prop :=
  w.cell? ⟨b, o, none⟩ = some (.int .i64 a.k) ∧ w.cell? ⟨b, o + 1, none⟩ = some (.int .i64 a.s) ∧ w.cell? ⟨b, o + 2, none⟩ = some (.int .i64 a.n)
def Acts (w : World) (A : Option Addr) (n : Nat) (l : List Ac) : Prop :=
  n = l.length ∧ (0 < n → ∃ b o, A = some ⟨b, o, none⟩ ∧ b < w.heap.size ∧ ∀ i a, l[i]? = some a → At3 w b (o + i * 3) a)
theorem At3.keep {w w' : World} {B b o : Nat} {a : Ac} {S : List Nat} (h : At3 w b o a) (k : Keep B S w w') (hb : b < B) (hs : b ∉ S) : At3 w' b o a :=
  ⟨(k.cell (p := ⟨b, _, none⟩) hb hs).trans h.1, (k.cell (p := ⟨b, _, none⟩) hb hs).trans h.2.1, (k.cell (p := ⟨b, _, none⟩) hb hs).trans h.2.2⟩
end Go.Proofs.Ythpngafglljgnaa
