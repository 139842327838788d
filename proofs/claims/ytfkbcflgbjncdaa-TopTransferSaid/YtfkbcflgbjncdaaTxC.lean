/- Ranges: slices.Clone, the closures of normal, IndexFunc; Forward. -/
import Derived.Test.YtfkbcflgbjncdaaTxY
namespace Go.Proofs.Ytfkbcflgbjncdaa
set_option linter.unusedVariables false
set_option linter.unusedSimpArgs false
open Go.RowKit
theorem infoRg : (Try.prog.info? 158).map (fun i => (i.zero, i.size, i.bytes)) = some (some (.agg #[.int .i64 0, .int .i64 0]), 2, 16) := by kernel_rfl
abbrev gcs (L : List Gp) : List Value := L.flatMap gcells
theorem gcs_one (L : List Gp) : ∀ u ∈ gcs L, u.oneCell' = true := by
  intro u hu
  obtain ⟨e, _, h⟩ := List.mem_flatMap.1 hu
  simp only [gcells, List.mem_cons, List.not_mem_nil, or_false] at h
  rcases h with rfl | rfl <;> rfl
def RgPost (w : World) (m : Nat) (L : List Gp) (e : Ending) (w' : World) : Prop :=
  ∃ A c, e = .returned (.slice A m c) ∧ Sl w' TG 2 A m c (gcs L) ∧ Keep w.heap.size [] w w' ∧ ∀ x, x ∈ blks A → w.heap.size ≤ x
set_option maxHeartbeats 1000000 in
theorem rclone_any (w : World) (X : Option Addr) (m c : Nat) (L : List Gp) (hm : m ≤ 1000000) (hv : Vw w X m 2 (gcs L)) : Calls Try.prog 154 #[.slice X m c] w (RgPost w m L) := by
  have HV := Lib.hid hv
  have hlen : L.length = m := by have := hv.1; rw [gcells_len] at this; omega
  clear hv
  obtain ⟨i0, hi0, hz0, hz1, hz2⟩ := info_parts infoRg
  have hq := fun W : World => Lib.run_eql_slice_nil (P := Try.prog) W 83 158 X m c 0 0 Try.underlying83
  cases X with
  | none =>
    have h0 : m = 0 := by
      rcases Nat.eq_zero_or_pos m with h | h
      · exact h
      · obtain ⟨_, _, h, _⟩ := HV.out.2 h; cases h
    subst h0
    have hl : L = [] := List.eq_nil_of_length_eq_zero hlen
    subst hl
    clear hlen
    go_enter Try.func154, Try.ntmps154
    go_wp2_with fail
    go_ret
    exact ⟨none, 0, rfl, Sl.nil _ _ _, Keep.refl _ _ _, by simp [blks]⟩
  | some a =>
    clear hlen
    go_enter Try.func154, Try.ntmps154
    go_wp2_with (at_builtin
                 refine wpList_appV _ rfl (.tmp 5) (.tmp 6) 83 rfl 158 i0 _ 2 16 Try.underlying83 hi0 hz0 hz1 hz2 rfl (by omega) (some ⟨w.heap.size, 0, none⟩) 0 0 [] rfl (World.ownsRow_made w #[] 0 (Nat.zero_le _) (by unfold maxLen; omega) rfl) (some a) m c (gcs L) rfl (HV.out.alloc _) (gcs_one L) (by omega) (by omega) ?_
                 intro A2 c2 w3 hs3 hk3 hb3
                 have HS3 := Lib.hid hs3
                 have HK3 := Lib.hid hk3
                 have HB3 := Lib.hid hb3
                 clear hs3 hk3 hb3)
    go_ret
    refine ⟨A2, c2, ?_, by simpa using HS3.out, ((Keep.refl _ _ w).alloc (Nat.le_refl _) _).chain (Nat.le_refl _) HK3.out (fun x hx => by simp [blks] at hx; omega), fun x hx => ?_⟩
    · first | rfl | (rw [Nat.zero_add])
    · rcases HB3.out x hx with h | h
      · simp [blks] at h; omega
      · simp at h; omega
/-- the closure that says which ranges are empty -/
theorem empty_cl (w : World) (g : Gp) (v : Bool) (hv : decide (g.t ≤ g.f) = v) : Calls Try.prog 156 #[.agg #[.int .i64 g.f, .int .i64 g.t]] w fun e w' => e = .returned (.bool v) ∧ Keep w.heap.size [] w w' := by
  subst hv
  go_enter Try.func156, Try.ntmps156
  go_wp2_with fail
  go_ret
  exact ⟨rfl, (Keep.refl _ _ _).alloc (Nat.le_refl _) _⟩
def IxPost (w : World) (L : List Gp) (e : Ending) (w' : World) : Prop :=
  Keep w.heap.size [] w w' ∧ ((e = .returned (.int .i64 (-1)) ∧ ∀ g ∈ L, g.f < g.t) ∨ ∃ (k : Nat) (g : Gp), e = .returned (.int .i64 (k : Int)) ∧ L[k]? = some g ∧ g.t ≤ g.f ∧ ∀ x ∈ L.take k, x.f < x.t)
set_option maxHeartbeats 2000000 in
theorem index_cl (w : World) (X : Option Addr) (m c : Nat) (L : List Gp) (hm : m ≤ 1000000) (hmc : m ≤ c) (hcm : c ≤ maxLen) (hv : Vw w X m 2 (gcs L)) :
    Calls Try.prog 165 #[.slice X m c, .func (.func 156) #[] #[]] w (IxPost w L) := by
  have hl : m = L.length := by have := hv.1; rw [gcells_len] at this; omega
  have hncI : (m : Int) ≤ (c : Int) := by omega
  have hcI : (c : Int) ≤ 9223372036854775807 := by unfold maxLen at hcm; omega
  have HV := Lib.hid hv
  have HL := Lib.hid hl
  clear hv hl
  go_enter Try.func165, Try.ntmps165
  go_wp2_with fail
  go_loopw [8] (fun j wr => ∃ (k : Nat), k ≤ m ∧ j = .int .i64 k ∧ (∀ x ∈ L.take k, x.f < x.t) ∧ Keep w.heap.size [] w wr) (fun j _ => m - (intOf j).toNat)
  case atStart => exact ⟨0, Nat.zero_le _, rfl, by simp, Keep.refl _ _ _⟩
  case round =>
    obtain ⟨k, hk, rfl, hgd, hkw⟩ := hrel
    have GD := Lib.hid hgd
    have KW := Lib.hid hkw
    clear hgd hkw
    by_cases hlt : k < m
    · have hki : (k : Int) < (m : Int) := by omega
      obtain ⟨b, o, g, rfl, hgk, d0, d1⟩ := gap_at (HV.out.keep0 KW.out) hlt
      have HGK := Lib.hid hgk
      clear hgk
      cases he : decide (g.t ≤ g.f) with
      | true =>
        have HE := Lib.hid he
        clear he
        go_wp2_with fail
        refine (empty_cl _ g true HE.out).mono ?_
        rintro e w1 ⟨rfl, hk1⟩
        have K1 := Lib.hid (KW.out.chain0 (Nat.le_refl _) hk1)
        clear hk1
        go_wp2_with fail
        go_ret
        exact ⟨K1.out, .inr ⟨k, g, rfl, HGK.out, of_decide_eq_true HE.out, GD.out⟩⟩
      | false =>
        have HE := Lib.hid he
        clear he
        go_wp2_with fail
        refine (empty_cl _ g false HE.out).mono ?_
        rintro e w1 ⟨rfl, hk1⟩
        have K1 := Lib.hid (KW.out.chain0 (Nat.le_refl _) hk1)
        clear hk1
        go_wp2_with fail
        go_roundw
        case rel =>
          refine ⟨k + 1, by omega, by go_num, fun x hx => ?_, K1.out⟩
          rw [List.take_add_one, HGK.out] at hx
          rcases List.mem_append.1 hx with hx | hx
          · exact GD.out x hx
          · have hxe : x = g := by simpa using hx
            have := of_decide_eq_false HE.out
            rw [hxe]; omega
        case measure => simp [intOf] <;> omega
    · obtain rfl : k = m := by omega
      go_wp2_with fail
      go_ret
      refine ⟨KW.out, .inl ⟨rfl, fun g hg => ?_⟩⟩
      have h := GD.out
      rw [HL.out, List.take_length] at h
      exact h g hg
end Go.Proofs.Ytfkbcflgbjncdaa
