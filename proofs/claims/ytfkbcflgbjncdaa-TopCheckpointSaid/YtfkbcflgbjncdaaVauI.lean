/- The vault: Older, Generation, Load. -/
import Derived.Test.YtfkbcflgbjncdaaVauH
namespace Go.Proofs.Ytfkbcflgbjncdaa
set_option linter.unusedVariables false
set_option linter.unusedSimpArgs false
open Go.RowKit
theorem VB.drew1 {w : World} {v g : Nat} (h : VB w v g) : VB w.drew v g := Blk.keepS h (S := []) (Keep.refl _ _ w).drew (by simp)
theorem MemC.drew1 {w : World} {g a : Nat} {cl : Bool} {D C : List Nat} (h : MemC w g a cl D C) : MemC w.drew g a cl D C := h.keepS (S := []) (Keep.refl _ _ w).drew (by simp) (by simp)
set_option maxHeartbeats 4000000 in
theorem Older_h (w : World) (v g a : Nat) (cl : Bool) (D C : List Nat) (o0 o1 : Option (Nat × List Int)) (hb : VB w v g) (h : MemC w g a cl D C) (hl : D.length = 400) (h0 : Holds D 0 o0) (h1 : Holds D 1 o1) (hvg : v ∉ [g, a]) :
    Calls Try.prog 63 #[bptr v] w (MPost w g a cl D (.int .i64 ((200 * olderN o0 o1 : Nat) : Int))) := by
  have hq1 : w.drew.cell? ⟨v, 1, none⟩ = some (.int .i64 0) := hb.drew1.cell 1
  have hq2 : w.drew.cell? ⟨v, 2, none⟩ = some (.int .i64 200) := hb.drew1.cell 2
  have HB := Lib.hid hb
  have HBD := Lib.hid hb.drew1
  have HHD := Lib.hid h.drew1
  have H0 := Lib.hid h0
  have H1 := Lib.hid h1
  have hol : olderN o0 o1 ≤ 1 := by unfold olderN; split <;> omega
  have HN := Lib.hid (older_h w.drew v g a cl D C o0 o1 HBD.out HHD.out hl H0.out H1.out hvg)
  obtain ⟨q, hq⟩ : ∃ q, q = olderN o0 o1 := ⟨_, rfl⟩
  rw [← hq] at HN hol ⊢
  have e1 : (q : Int) * 200 = ((200 * q : Nat) : Int) := by omega
  have e2 : ((200 * q : Nat) : Int) ≤ 200 := by omega
  have e0 : (0 : Int) ≤ ((200 * q : Nat) : Int) := by omega
  obtain ⟨Q, hQ⟩ : ∃ Q, Q = 200 * q := ⟨_, rfl⟩
  rw [← hQ] at e0 e1 e2 ⊢
  have ew : IntKind.i64.wrap (Q : Int) = (Q : Int) := i64w' Q (by omega)
  clear hb h h0 h1 hq hQ
  have p1 : w.drew.cell? ⟨v, 1, none⟩ = some (.int .i64 0) ∧ w.drew.cell? ⟨v, 2, none⟩ = some (.int .i64 200) := ⟨hq1, hq2⟩
  clear hq1 hq2
  go_enter Try.func63, Try.ntmps63
  go_wp2_with fail
  refine (usable_w _ v g HB.out).mono ?_
  rintro e w' ⟨rfl, rfl⟩
  go_wp2_with fail
  go_region_held3 (fun w' => w'.cell? ⟨v, 1, none⟩ = some (.int .i64 0) ∧ w'.cell? ⟨v, 2, none⟩ = some (.int .i64 200)) (first | with_reducible exact p1 | with_reducible exact p2)
    (first
      | (go_at_call 119
         refine HN.out.mono ?_
         rintro e w2 ⟨rfl, C2, hm, hk⟩
         have M2 := Lib.hid hm
         have K2 : Hid (Keep w.heap.size [g, a] w w2) := Lib.hid hk.undrew
         have B2 := HB.out.keepS K2.out hvg
         have p2 : w2.cell? ⟨v, 1, none⟩ = some (.int .i64 0) ∧ w2.cell? ⟨v, 2, none⟩ = some (.int .i64 200) := ⟨B2.cell 1, B2.cell 2⟩
         clear hm hk B2))
  go_wp2_with fail
  go_ret
  exact ⟨rfl, C2, M2.out, K2.out⟩
set_option maxHeartbeats 4000000 in
theorem gener_h (w : World) (v g a : Nat) (cl : Bool) (D C : List Nat) (o0 o1 : Option (Nat × List Int)) (hb : VB w v g) (h : MemC w g a cl D C) (hl : D.length = 400) (h0 : Holds D 0 o0) (h1 : Holds D 1 o1) (hvg : v ∉ [g, a]) :
    Calls Try.prog 61 #[bptr v] w (MPost w g a cl D (.int .i64 (gen (pick o0 o1).2 : Int))) := by
  have HB := Lib.hid hb
  have HN := Lib.hid (newest_h w v g a cl D C o0 o1 hb h hl h0 h1 hvg)
  obtain ⟨r, hr⟩ : ∃ r, r = pick o0 o1 := ⟨_, rfl⟩
  rw [← hr] at HN ⊢
  clear hb h h0 h1 hr
  go_enter Try.func61, Try.ntmps61
  go_wp2_with fail
  refine (usable_w _ v g HB.out).mono ?_
  rintro e w' ⟨rfl, rfl⟩
  go_wp2_with fail
  refine HN.out.mono ?_
  rintro e W1 ⟨A, c, rfl, _, _, _, C1, hm, hk⟩
  have M1 := Lib.hid hm
  have K1 := Lib.hid hk
  clear hm hk
  go_wp2_with fail
  go_ret
  exact ⟨rfl, C1, M1.out, K1.out⟩
def LoadPostV (w : World) (g a : Nat) (cl : Bool) (D : List Nat) (b : List Int) (e : Ending) (w' : World) : Prop :=
  ∃ A c', e = .returned (.tuple #[.slice A b.length c', .int .i64 0]) ∧ Vw w' A b.length 1 (octs b) ∧ (b.length ≤ c' ∧ c' ≤ maxLen) ∧ (∀ x, x ∈ blks A → w.heap.size ≤ x) ∧ ∃ C', MemC w' g a cl D C' ∧ Keep w.heap.size [g, a] w w'
set_option maxHeartbeats 4000000 in
theorem vload_h (w : World) (v g a : Nat) (cl : Bool) (D C : List Nat) (o0 o1 : Option (Nat × List Int)) (G : Nat) (b : List Int) (hb : VB w v g) (h : MemC w g a cl D C) (hl : D.length = 400) (h0 : Holds D 0 o0) (h1 : Holds D 1 o1) (hvg : v ∉ [g, a]) (hp : (pick o0 o1).2 = some (G, b)) (hG : 1 ≤ G) :
    Calls Try.prog 25 #[bptr v] w (LoadPostV w g a cl D b) := by
  have HB := Lib.hid hb
  have hn := newest_h w v g a cl D C o0 o1 hb h hl h0 h1 hvg
  unfold NewPost at hn
  rw [hp] at hn
  have HN := Lib.hid hn
  obtain ⟨r, hr⟩ : ∃ r, r = (pick o0 o1).1 := ⟨_, rfl⟩
  rw [← hr] at HN
  have hg0 : ¬ (G : Int) = 0 := by omega
  have hgb : ((G : Int) == 0) = false := by rw [beq_eq_false_iff_ne]; exact hg0
  clear hb h h0 h1 hr hn hp
  go_enter Try.func25, Try.ntmps25
  go_wp2_with fail
  refine (usable_w _ v g HB.out).mono ?_
  rintro e w' ⟨rfl, rfl⟩
  go_wp2_with fail
  refine HN.out.mono ?_
  rintro e W1 ⟨A, c, rfl, hv, hc, hA, C1, hm, hk⟩
  have V1 := Lib.hid hv
  have HA := Lib.hid hA
  have M1 := Lib.hid hm
  have K1 := Lib.hid hk
  have HC := Lib.hid hc
  clear hv hA hm hk hc
  have e3 : (gen (some (G, b)) : Int) = (G : Int) := rfl
  have e4 : (img (some (G, b))).length = b.length := rfl
  rw [e3, e4]
  go_wp2_with fail
  go_ret2
  exact ⟨A, c, rfl, V1.out, HC.out, HA.out, C1, M1.out, K1.out⟩
end Go.Proofs.Ytfkbcflgbjncdaa
