/- The laws VerifyDecodes and VerifyEncodes: their walks. -/
import Derived.Test.YtnppgeggcaigjaaAlive
namespace Go.Proofs.Ytnppgeggcaigjaa
set_option linter.unusedVariables false
set_option linter.unusedSimpArgs false
open Go.RowKit
set_option maxHeartbeats 2000000 in
theorem decodes_any (w : World) (X : Option Addr) (m c : Nat) (L : List Int) (hO : Oct L) (hv : Vw w X m 1 (octs L)) :
    Calls Try.prog 4 #[.slice X m c] w (LawPost w) := by
  have HO := Lib.hid hO
  have HV := Lib.hid hv
  clear hO hv
  by_cases hlt : 100 < m
  · have hl : (100 : Int) < (m : Int) := by omega
    go_enter Try.func4, Try.ntmps4
    go_wp2_with fail
    refine (alive_any _).mono ?_
    rintro e w1 ⟨rfl, hk⟩
    have HK := Lib.hid hk
    clear hk
    go_wp2_with fail
    go_ret
    exact ⟨rfl, HK.out⟩
  · have hl : (m : Int) ≤ 100 := by omega
    have hm : m ≤ 140737488355328 := by omega
    obtain ⟨r, hr⟩ : ∃ r, decP L = r := ⟨_, rfl⟩
    have HR := Lib.hid hr
    clear hr
    go_enter Try.func4, Try.ntmps4
    go_wp2_with fail
    refine (decode_r _ X m c L r HR.out HO.out hm HV.out).mono ?_
    rintro e w1 ⟨rfl, hk⟩
    have K1 := Lib.hid hk
    have HV1 := Lib.hid (HV.out.keep0 hk)
    clear hk
    go_wp2_with fail
    refine (rdecode_r _ X m c L r HR.out HO.out hm (HV1.out.alloc _)).mono ?_
    rintro e w2 ⟨rfl, hk⟩
    have K2 : Hid (Keep w.heap.size [] w w2) := (K1.out.alloc K1.out.size _).chain0 (Nat.le_refl _) hk
    have H2 := Lib.hid ((Blk.new w1 24 (acells r.1)).keepS hk (by simp))
    have e0 : ∀ o : Obj, (w2.alloc o).cell? ⟨w1.heap.size, 0, none⟩ = some (.int .i64 r.1.src) := fun o => (H2.out.alloc o).cell 0
    have e1 : ∀ o : Obj, (w2.alloc o).cell? ⟨w1.heap.size, 1, none⟩ = some (.int .i64 r.1.num) := fun o => (H2.out.alloc o).cell 1
    have e2 : ∀ o : Obj, (w2.alloc o).cell? ⟨w1.heap.size, 2, none⟩ = some (.int .i64 r.1.stg) := fun o => (H2.out.alloc o).cell 2
    have e3 : ∀ o : Obj, (w2.alloc o).cell? ⟨w1.heap.size, 3, none⟩ = some (.int .i64 r.1.cod) := fun o => (H2.out.alloc o).cell 3
    clear hk K1
    go_wp2_with fail
    refine (alive_any _).mono ?_
    rintro e w3 ⟨rfl, hk⟩
    have K3 : Hid (Keep w.heap.size [] w w3) := (K2.out.alloc K2.out.size _).chain0 (Nat.le_refl _) hk
    clear hk
    go_wp2_with fail
    go_ret
    exact ⟨rfl, K3.out⟩

theorem valid_k (w : World) (a : Ak) (b : Bool) (h : a.valid = b) : Calls Try.prog 10 #[aagg a] w fun e w' => e = .returned (.bool b) ∧ Keep w.heap.size [] w w' :=
  (valid_v w a b h).mono fun _ _ ⟨h1, h2⟩ => ⟨h1, h2 ▸ (Keep.refl _ _ w).alloc (Nat.le_refl _) _⟩
theorem rvalid_k (w : World) (a : Ak) (b : Bool) (h : a.valid = b) : Calls Try.prog 11 #[aagg a] w fun e w' => e = .returned (.bool b) ∧ Keep w.heap.size [] w w' :=
  (rvalid_v w a b h).mono fun _ _ ⟨h1, h2⟩ => ⟨h1, h2 ▸ (Keep.refl _ _ w).alloc (Nat.le_refl _) _⟩
/-- what Encode hands back, and its reference: a slice with the octets E, and a number -/
theorem encode_b (w : World) (a : Ak) : ∃ (n : Nat) (E : List Int) (k : Int), Calls Try.prog 8 #[aagg a] w (fun e w' => ∃ A c, e = .returned (.tuple #[.slice A n c, .int .i64 k]) ∧ Vw w' A n 1 (octs E) ∧ Keep w.heap.size [] w w') ∧
    ∀ w, Calls Try.prog 9 #[aagg a] w (fun e w' => ∃ A c, e = .returned (.tuple #[.slice A n c, .int .i64 k]) ∧ Vw w' A n 1 (octs E) ∧ Keep w.heap.size [] w w') := by
  cases h : a.valid with
  | false =>
    refine ⟨0, [], 1, (encode_no w a h).mono ?_, fun w => (rencode_no w a h).mono ?_⟩
    · rintro e w' ⟨rfl, hk⟩; exact ⟨none, 0, rfl, Vw.nil _ _, hk⟩
    · rintro e w' ⟨rfl, hk⟩; exact ⟨none, 0, rfl, Vw.nil _ _, hk⟩
  | true =>
    refine ⟨5, enc a, 0, (encode_yes w a h).mono ?_, fun w => (rencode_yes w a h).mono ?_⟩
    · rintro e w' ⟨A, c, rfl, hs, hk, _⟩; exact ⟨A, c, rfl, hs.vw (by omega), hk⟩
    · rintro e w' ⟨A, c, rfl, hs, hk, _⟩; exact ⟨A, c, rfl, hs.vw (by omega), hk⟩

end Go.Proofs.Ytnppgeggcaigjaa
