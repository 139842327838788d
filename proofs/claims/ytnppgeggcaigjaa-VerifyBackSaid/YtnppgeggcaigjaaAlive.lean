/- The law package's alive: the examples of the chapter. -/
import Derived.Test.YtnppgeggcaigjaaWalkD
namespace Go.Proofs.Ytnppgeggcaigjaa
set_option linter.unusedVariables false
set_option linter.unusedSimpArgs false
open Go.RowKit
def A0 : Ak := ⟨1, 258, 4, 11⟩
theorem decode_r (w : World) (X : Option Addr) (m c : Nat) (L : List Int) (r : Ak × Int) (h : decP L = r) (hO : Oct L) (hm : m ≤ 140737488355328) (hv : Vw w X m 1 (octs L)) :
    Calls Try.prog 13 #[.slice X m c] w (DecPost w r) := h ▸ decode_any w X m c L hO hm hv
theorem rdecode_r (w : World) (X : Option Addr) (m c : Nat) (L : List Int) (r : Ak × Int) (h : decP L = r) (hO : Oct L) (hm : m ≤ 140737488355328) (hv : Vw w X m 1 (octs L)) :
    Calls Try.prog 14 #[.slice X m c] w (DecPost w r) := h ▸ rdecode_any w X m c L hO hm hv
theorem enc_oct (a : Ak) (h : a.valid = true) : Oct (enc a) := by
  have h' := (valid_iff a).1 h
  intro x hx
  simp only [enc, List.mem_cons, List.not_mem_nil, or_false] at hx
  omega
theorem dec_enc (a : Ak) (h : a.valid = true) : decP (enc a) = (a, 0) := by
  have h' := (valid_iff a).1 h
  have hd : dec (enc a) = a := by
    cases a
    simp only [dec, enc, List.getD_cons_zero, List.getD_cons_succ]
    congr 1
    simp only at h'
    omega
  unfold decP
  rw [if_neg (by simp [enc]), if_neg (by simp [enc]), hd, if_pos h]
set_option maxHeartbeats 2000000 in
theorem alive_any (w : World) : Calls Try.prog 12 #[] w fun e w' => e = .returned (.bool true) ∧ Keep w.heap.size [] w w' := by
  go_enter Try.func12, Try.ntmps12
  go_wp2_with fail
  refine (encode_yes _ A0 (by decide)).mono ?_
  rintro e w1 ⟨A, c, rfl, hs, hk, hb⟩
  have HS := Lib.hid hs
  have K1 : Hid (Keep w.heap.size [] w w1) := ((Keep.refl _ _ w).alloc (Nat.le_refl _) _).chain0 (Nat.le_refl _) hk
  have H1 : Hid (Blk w1 w.heap.size 24 (acells A0)) := (Blk.new w _ (acells A0)).keepS hk (by simp)
  clear hs hk hb
  go_wp2_with fail
  refine (decode_r _ A 5 c (enc A0) (⟨1, 258, 4, 11⟩, 0) (dec_enc A0 (by decide)) (enc_oct A0 (by decide)) (by omega) (HS.out.vw (by omega))).mono ?_
  rintro e w2 ⟨rfl, hk⟩
  have K2 : Hid (Keep w.heap.size [] w w2) := K1.out.chain0 (Nat.le_refl _) hk
  have H2 := Lib.hid (H1.out.keepS hk (by simp))
  have HS2 := Lib.hid (HS.out.keep0 hk)
  clear hk H1 HS K1
  have e0 : ∀ o : Obj, (w2.alloc o).cell? ⟨w.heap.size, 0, none⟩ = some (.int .i64 1) := fun o => (H2.out.alloc o).cell 0
  have e1 : ∀ o : Obj, (w2.alloc o).cell? ⟨w.heap.size, 1, none⟩ = some (.int .i64 258) := fun o => (H2.out.alloc o).cell 1
  have e2 : ∀ o : Obj, (w2.alloc o).cell? ⟨w.heap.size, 2, none⟩ = some (.int .i64 4) := fun o => (H2.out.alloc o).cell 2
  have e3 : ∀ o : Obj, (w2.alloc o).cell? ⟨w.heap.size, 3, none⟩ = some (.int .i64 11) := fun o => (H2.out.alloc o).cell 3
  have hcv : ∀ o : Obj, (convert 25 9 (.slice A 5 c)).run Try.prog (w2.alloc o) = .ok (.string ⟨#[1, 1, 2, 4, 11]⟩) (w2.alloc o) := fun o =>
    conv_str 25 9 5 Try.underlying25 Try.underlying5 Try.underlying9 A 5 c (enc A0) ((HS2.out.alloc o).vw (by omega))
  go_wp2_with fail
  refine (follows_v _ 1 2 true (by decide)).mono ?_
  rintro e w' ⟨rfl, rfl⟩
  go_wp2_with fail
  refine (follows_v _ 4 2 false (by decide)).mono ?_
  rintro e w' ⟨rfl, rfl⟩
  go_wp2_with fail
  refine (follows_v _ 1 3 false (by decide)).mono ?_
  rintro e w' ⟨rfl, rfl⟩
  go_wp2_with fail
  refine (final_v _ 3 true (by decide)).mono ?_
  rintro e w' ⟨rfl, rfl⟩
  go_wp2_with fail
  go_ret
  exact ⟨rfl, K2.out.alloc K2.out.size _⟩

def LawPost (w : World) (e : Ending) (w' : World) : Prop := e = .returned (.bool true) ∧ Keep w.heap.size [] w w'

set_option maxHeartbeats 1000000 in
theorem pairs_any (w : World) (a b : Int) : Calls Try.prog 6 #[.int .i64 a, .int .i64 b] w (LawPost w) := by
  go_enter Try.func6, Try.ntmps6
  go_wp2_with fail
  refine (follows_any _ a b).mono ?_
  rintro e w' ⟨rfl, rfl⟩
  go_wp2_with fail
  refine (rfollows_any _ a b).mono ?_
  rintro e w' ⟨rfl, rfl⟩
  go_wp2_with fail
  refine (final_any _ a).mono ?_
  rintro e w' ⟨rfl, rfl⟩
  go_wp2_with fail
  refine (rfinal_any _ a).mono ?_
  rintro e w' ⟨rfl, rfl⟩
  go_wp2_with fail
  refine (alive_any _).mono ?_
  rintro e w1 ⟨rfl, hk⟩
  have HK := Lib.hid hk
  clear hk
  go_wp2_with fail
  go_ret
  exact ⟨rfl, HK.out⟩
end Go.Proofs.Ytnppgeggcaigjaa
