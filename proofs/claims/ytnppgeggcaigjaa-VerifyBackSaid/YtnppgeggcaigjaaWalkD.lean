/- The contract of the reference's Decode. -/
import Derived.Test.YtnppgeggcaigjaaWalkC
namespace Go.Proofs.Ytnppgeggcaigjaa
set_option linter.unusedVariables false
set_option linter.unusedSimpArgs false
open Go.RowKit
set_option maxHeartbeats 2000000 in
theorem rdecode_len (w : World) (X : Option Addr) (m c : Nat) (L : List Int) (hl : L.length = m) (h : m < 5 ∨ 5 < m) (hm : m ≤ 140737488355328) :
    Calls Try.prog 14 #[.slice X m c] w (DecPost w (decP L)) := by
  rcases h with h | h
  · have HD : Hid (decP L = (zak, 3)) := if_pos (by omega)
    have h' : (m : Int) < 5 := by omega
    clear hl
    go_enter Try.func14, Try.ntmps14
    go_wp2_with fail
    rw [HD.out]
    refine bodyPost_ret (v := .tuple #[aagg zak, .int .i64 3]) (by simp [results, Try.results14, go_sem, zak]) rfl ⟨rfl, ?_⟩
    exact (Keep.refl _ _ w).alloc (Nat.le_refl _) _
  · have HD : Hid (decP L = (zak, 6)) := by unfold Hid decP; rw [if_neg (by omega), if_pos (by omega)]
    have h' : (5 : Int) < (m : Int) := by omega
    clear hl
    go_enter Try.func14, Try.ntmps14
    go_wp2_with fail
    rw [HD.out]
    refine bodyPost_ret (v := .tuple #[aagg zak, .int .i64 6]) (by simp [results, Try.results14, go_sem, zak]) rfl ⟨rfl, ?_⟩
    exact (Keep.refl _ _ w).alloc (Nat.le_refl _) _

set_option maxHeartbeats 4000000 in
theorem rdecode_five (w : World) (X : Option Addr) (c : Nat) (a b d e f : Int) (hO : Oct [a, b, d, e, f]) (hv : Vw w X 5 1 (octs [a, b, d, e, f])) :
    Calls Try.prog 14 #[.slice X 5 c] w (DecPost w (decP [a, b, d, e, f])) := by
  obtain ⟨oa0, oa1⟩ := hO a (by simp)
  obtain ⟨ob0, ob1⟩ := hO b (by simp)
  obtain ⟨od0, od1⟩ := hO d (by simp)
  obtain ⟨oe0, oe1⟩ := hO e (by simp)
  obtain ⟨of0, of1⟩ := hO f (by simp)
  obtain ⟨bx, ox, rfl, hbx, hc⟩ := hv.2 (by omega)
  have c0 : w.cell? ⟨bx, ox, none⟩ = some (.int .u8 a) := hc 0 _ rfl
  have c1 : w.cell? ⟨bx, ox + 1, none⟩ = some (.int .u8 b) := hc 1 _ rfl
  have c2 : w.cell? ⟨bx, ox + 2, none⟩ = some (.int .u8 d) := hc 2 _ rfl
  have c3 : w.cell? ⟨bx, ox + 3, none⟩ = some (.int .u8 e) := hc 3 _ rfl
  have c4 : w.cell? ⟨bx, ox + 4, none⟩ = some (.int .u8 f) := hc 4 _ rfl
  clear hO hv hc
  have m1 : IntKind.i64.wrap (b * 256) = b * 256 := IntWalk.i64_in _ (by omega)
  have m2 : IntKind.i64.wrap (b * 256 + d) = b * 256 + d := IntWalk.i64_in _ (by omega)
  go_enter Try.func14, Try.ntmps14
  go_wp2_with fail
  obtain ⟨W0, hW⟩ : ∃ W0, W0 = w.alloc (.cells (acells zak) 24) := ⟨_, rfl⟩
  have HR0 : Hid (Blk W0 w.heap.size 24 (acells zak)) := by rw [hW]; exact Blk.new _ _ _
  have HK0 : Hid (Keep w.heap.size [] w W0) := by rw [hW]; exact (Keep.refl _ _ w).alloc (Nat.le_refl _) _
  have hall : ∀ (p : Addr), p.block < w.heap.size → W0.cell? p = w.cell? p := fun p hp => HK0.out.cell hp (by simp)
  have e0 := (hall ⟨bx, ox, none⟩ hbx).trans c0
  have e1 := (hall ⟨bx, ox + 1, none⟩ hbx).trans c1
  have e2 := (hall ⟨bx, ox + 2, none⟩ hbx).trans c2
  have e3 := (hall ⟨bx, ox + 3, none⟩ hbx).trans c3
  have e4 := (hall ⟨bx, ox + 4, none⟩ hbx).trans c4
  have hlt : bx < W0.heap.size := Nat.lt_of_lt_of_le hbx HK0.out.size
  have HQ : Hid (w.alloc (.cells #[.int .i64 0, .int .i64 0, .int .i64 0, .int .i64 0] 24) = W0) := hW.symm
  rw [HQ.out]
  clear hW HQ hall c0 c1 c2 c3 c4
  have HA : Hid (∀ o : Obj, (W0.alloc o).cell? ⟨bx, ox, none⟩ = some (.int .u8 a) ∧ (W0.alloc o).cell? ⟨bx, ox + 1, none⟩ = some (.int .u8 b) ∧ (W0.alloc o).cell? ⟨bx, ox + 2, none⟩ = some (.int .u8 d) ∧ (W0.alloc o).cell? ⟨bx, ox + 3, none⟩ = some (.int .u8 e) ∧ (W0.alloc o).cell? ⟨bx, ox + 4, none⟩ = some (.int .u8 f)) :=
    fun o => ⟨(World.cell?_alloc_lt W0 o _ hlt).trans e0, (World.cell?_alloc_lt W0 o _ hlt).trans e1, (World.cell?_alloc_lt W0 o _ hlt).trans e2, (World.cell?_alloc_lt W0 o _ hlt).trans e3, (World.cell?_alloc_lt W0 o _ hlt).trans e4⟩
  go_region_held3 (fun w' => w'.cell? ⟨bx, ox, none⟩ = some (.int .u8 a) ∧ w'.cell? ⟨bx, ox + 1, none⟩ = some (.int .u8 b) ∧ w'.cell? ⟨bx, ox + 2, none⟩ = some (.int .u8 d) ∧ w'.cell? ⟨bx, ox + 3, none⟩ = some (.int .u8 e) ∧ w'.cell? ⟨bx, ox + 4, none⟩ = some (.int .u8 f))
    (first | exact ⟨e0, e1, e2, e3, e4⟩ | exact HA.out _) (first | (go_at_call 999; fail))
  go_wp2_with fail
  cases hva : (⟨a, b * 256 + d, e, f⟩ : Ak).valid with
  | false =>
    have HVA := Lib.hid hva
    have HDD : Hid (decP [a, b, d, e, f] = (zak, 4)) := by
      unfold Hid decP
      rw [if_neg (by simp), if_neg (by simp), if_neg (by simpa [dec] using hva)]
    clear hva
    refine (rvalid_v _ ⟨a, b * 256 + d, e, f⟩ false HVA.out).mono ?_
    rintro e1 w8 ⟨rfl, hw⟩
    have HR : Hid (Blk w8 w.heap.size 24 (acells zak)) := by rw [← hw]; exact (HR0.out.alloc _).alloc _
    have HL : Hid (Blk w8 W0.heap.size 24 (acells ⟨a, b * 256 + d, e, f⟩)) := by rw [← hw]; exact Blk.alloc (w := (W0.alloc (abox ⟨a, b * 256 + d, e, f⟩)).drew) (Blk.new W0 _ _) _
    have HK : Hid (Keep w.heap.size [] w w8) := by rw [← hw]; exact (HK0.out.alloc HK0.out.size _).drew.alloc (by have := HK0.out.size; simp; omega) _
    have q0 : w8.cell? ⟨w.heap.size, 0, none⟩ = some (.int .i64 0) := HR.out.cell 0
    have f0 := HR.out.frozen 0
    have q1 : w8.cell? ⟨w.heap.size, 1, none⟩ = some (.int .i64 0) := HR.out.cell 1
    have f1 := HR.out.frozen 1
    have q2 : w8.cell? ⟨w.heap.size, 2, none⟩ = some (.int .i64 0) := HR.out.cell 2
    have f2 := HR.out.frozen 2
    have q3 : w8.cell? ⟨w.heap.size, 3, none⟩ = some (.int .i64 0) := HR.out.cell 3
    have f3 := HR.out.frozen 3
    clear hw HA e0 e1 e2 e3 e4
    go_wp2_with fail
    rw [HDD.out]
    refine bodyPost_ret (v := .tuple #[aagg zak, .int .i64 4]) (by simp [results, Try.results14, go_sem, zak, q0, q1, q2, q3]) rfl ⟨rfl, ?_⟩
    repeat (first | exact HK.out | refine Keep.setN ?_ (Nat.le_refl _))
  | true =>
    have HVA := Lib.hid hva
    have HDD : Hid (decP [a, b, d, e, f] = (⟨a, b * 256 + d, e, f⟩, 0)) := by
      unfold Hid decP
      rw [if_neg (by simp), if_neg (by simp), if_pos (by simpa [dec] using hva)]
      rfl
    clear hva
    refine (rvalid_v _ ⟨a, b * 256 + d, e, f⟩ true HVA.out).mono ?_
    rintro e1 w8 ⟨rfl, hw⟩
    have HR : Hid (Blk w8 w.heap.size 24 (acells zak)) := by rw [← hw]; exact (HR0.out.alloc _).alloc _
    have HL : Hid (Blk w8 W0.heap.size 24 (acells ⟨a, b * 256 + d, e, f⟩)) := by rw [← hw]; exact Blk.alloc (w := (W0.alloc (abox ⟨a, b * 256 + d, e, f⟩)).drew) (Blk.new W0 _ _) _
    have HK : Hid (Keep w.heap.size [] w w8) := by rw [← hw]; exact (HK0.out.alloc HK0.out.size _).drew.alloc (by have := HK0.out.size; simp; omega) _
    have q0 : w8.cell? ⟨w.heap.size, 0, none⟩ = some (.int .i64 0) := HR.out.cell 0
    have f0 := HR.out.frozen 0
    have q1 : w8.cell? ⟨w.heap.size, 1, none⟩ = some (.int .i64 0) := HR.out.cell 1
    have f1 := HR.out.frozen 1
    have q2 : w8.cell? ⟨w.heap.size, 2, none⟩ = some (.int .i64 0) := HR.out.cell 2
    have f2 := HR.out.frozen 2
    have q3 : w8.cell? ⟨w.heap.size, 3, none⟩ = some (.int .i64 0) := HR.out.cell 3
    have f3 := HR.out.frozen 3
    have r0 : w8.cell? ⟨W0.heap.size, 0, none⟩ = some (.int .i64 a) := HL.out.cell 0
    have r1 : w8.cell? ⟨W0.heap.size, 1, none⟩ = some (.int .i64 (b * 256 + d)) := HL.out.cell 1
    have r2 : w8.cell? ⟨W0.heap.size, 2, none⟩ = some (.int .i64 e) := HL.out.cell 2
    have r3 : w8.cell? ⟨W0.heap.size, 3, none⟩ = some (.int .i64 f) := HL.out.cell 3
    clear hw HA e0 e1 e2 e3 e4
    go_wp2_with fail
    rw [HDD.out]
    refine bodyPost_ret (v := .tuple #[aagg ⟨a, b * 256 + d, e, f⟩, .int .i64 0]) (by simp [results, Try.results14, go_sem, zak, q0, q1, q2, q3]) rfl ⟨rfl, ?_⟩
    repeat (first | exact HK.out | refine Keep.setN ?_ (Nat.le_refl _))

theorem rdecode_any (w : World) (X : Option Addr) (m c : Nat) (L : List Int) (hO : Oct L) (hm : m ≤ 140737488355328) (hv : Vw w X m 1 (octs L)) :
    Calls Try.prog 14 #[.slice X m c] w (DecPost w (decP L)) := by
  have hl : L.length = m := by simpa [octs] using hv.1
  by_cases h : m < 5 ∨ 5 < m
  · exact rdecode_len w X m c L hl h hm
  · obtain rfl : m = 5 := by omega
    obtain ⟨a, b, d, e, f, rfl⟩ := len5 hl
    exact rdecode_five w X c a b d e f hO hv
end Go.Proofs.Ytnppgeggcaigjaa
