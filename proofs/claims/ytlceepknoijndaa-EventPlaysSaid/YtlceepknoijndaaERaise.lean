/- slices.Clone of events, Recent. -/
import Derived.Test.YtlceepknoijndaaEEn
namespace Go.Proofs.Ytlceepknoijndaa
set_option linter.unusedVariables false
set_option linter.unusedSimpArgs false
open Go.RowKit
theorem infoEv : (Try.prog.info? 31).map (fun i => (i.zero, i.size, i.bytes)) = some (some (.agg #[.int .i64 0, .int .i64 0, .int .i64 0, .int .i64 0]), 4, 32) := by kernel_rfl
theorem ev_one (l : List Ev) : ∀ u ∈ evs l, u.oneCell' = true := by
  intro u hu
  obtain ⟨e, _, h⟩ := List.mem_flatMap.1 hu
  simp only [ecells, List.mem_cons, List.not_mem_nil, or_false] at h
  rcases h with rfl | rfl | rfl | rfl <;> rfl
theorem evs_len : ∀ l : List Ev, (evs l).length = l.length * 4
  | [] => rfl
  | e :: l => by rw [show evs (e :: l) = ecells e ++ evs l from rfl, List.length_append, evs_len l]; simp; omega
theorem evs_app (l m : List Ev) : evs (l ++ m) = evs l ++ evs m := by simp [evs]
def ClPost (w : World) (m : Nat) (l : List Ev) (e : Ending) (w' : World) : Prop :=
  ∃ A c, e = .returned (.slice A m c) ∧ Sl w' 31 4 A m c (evs l) ∧ Keep w.heap.size [] w w' ∧ ∀ x, x ∈ blks A → w.heap.size ≤ x
set_option maxHeartbeats 1000000 in
theorem clone_any (w : World) (X : Option Addr) (m c : Nat) (l : List Ev) (hm : m ≤ 1000000) (hv : Vw w X m 4 (evs l)) : Calls Try.prog 21 #[.slice X m c] w (ClPost w m l) := by
  have HV := Lib.hid hv
  have hlen : l.length = m := by have := hv.1; rw [evs_len] at this; omega
  clear hv
  obtain ⟨i0, hi0, hz0, hz1, hz2⟩ := info_parts infoEv
  have hq := fun W : World => Lib.run_eql_slice_nil (P := Try.prog) W 34 31 X m c 0 0 Try.underlying34
  cases X with
  | none =>
    have h0 : m = 0 := by
      rcases Nat.eq_zero_or_pos m with h | h
      · exact h
      · obtain ⟨_, _, h, _⟩ := HV.out.2 h; cases h
    subst h0
    have hl : l = [] := List.eq_nil_of_length_eq_zero hlen
    subst hl
    clear hlen
    go_enter Try.func21, Try.ntmps21
    go_wp2_with fail
    go_ret
    exact ⟨none, 0, rfl, Sl.nil _ _ _, Keep.refl _ _ _, by simp [blks]⟩
  | some a =>
    clear hlen
    go_enter Try.func21, Try.ntmps21
    go_wp2_with (at_builtin
                 refine wpList_appV _ rfl (.tmp 5) (.tmp 6) 34 rfl 31 i0 _ 4 32 Try.underlying34 hi0 hz0 hz1 hz2 rfl (by omega) (some ⟨w.heap.size, 0, none⟩) 0 0 [] rfl (World.ownsRow_made w #[] 0 (Nat.zero_le _) (by unfold maxLen; omega) rfl) (some a) m c (evs l) rfl (HV.out.alloc _) (ev_one l) (by omega) (by omega) ?_
                 intro A2 c2 w3 hs3 hk3 hb3
                 have HS3 := Lib.hid hs3
                 have HK3 := Lib.hid hk3
                 have HB3 := Lib.hid hb3
                 clear hs3 hk3 hb3)
    go_ret
    refine ⟨A2, c2, ?_, by simpa using HS3.out, ((Keep.refl _ _ w).alloc (Nat.le_refl _) _).chain (Nat.le_refl _) HK3.out (fun x hx => by simp [blks] at hx; omega), fun x hx => ?_⟩
    · first | rfl | (rw [Nat.zero_add])
    · rcases HB3.out x hx with h | h
      · simp [blks] at h; omega
      · simp at h; omega
set_option maxHeartbeats 1000000 in
theorem recent_any (w : World) (g r : Nat) (A : Option Addr) (n c : Nat) (s : St) (hn : n ≤ 1000000) (h : Sv w g r A n c s) : Calls Try.prog 13 #[pf g] w (ClPost w n s.L) := by
  have H := Lib.hid h
  have d1 : w.cell? ⟨g, 1, none⟩ = some (.slice A n c) := h.blk.cell 1
  have HV := Lib.hid (h.sl.vw (by omega))
  clear h
  go_enter Try.func13, Try.ntmps13
  go_wp2_with fail
  refine (none_any _ g r A n c s H.out).mono ?_
  rintro e w' ⟨rfl, rfl⟩
  go_wp2_with fail
  refine (clone_any _ A n c s.L hn HV.out).mono ?_
  rintro e w1 ⟨A2, c2, rfl, hs, hk, hb⟩
  have HS := Lib.hid hs
  have HK := Lib.hid hk
  have HB := Lib.hid hb
  clear hs hk hb
  go_wp2_with fail
  go_ret
  exact ⟨A2, c2, rfl, HS.out, HK.out, HB.out⟩
set_option maxHeartbeats 400000 in
theorem recent_nil (w : World) : Calls Try.prog 13 #[.pointer none] w fun e w' => e = .returned (.slice none 0 0) ∧ w' = w := by
  go_enter Try.func13, Try.ntmps13
  go_wp2_with fail
  refine (none_nil _).mono ?_
  rintro e w' ⟨rfl, rfl⟩
  go_wp2_with fail
  go_ret
  exact ⟨rfl, rfl⟩
set_option maxHeartbeats 400000 in
theorem raise_nil (w : World) (x : Ev) : Calls Try.prog 10 #[.pointer none, eagg x] w fun e w' => e = .returned (.tuple #[.bool false, .int .i64 2]) ∧ Keep w.heap.size [] w w' := by
  go_enter Try.func10, Try.ntmps10
  go_wp2_with fail
  refine (none_nil _).mono ?_
  rintro e w' ⟨rfl, rfl⟩
  go_wp2_with fail
  go_ret2
  exact ⟨rfl, (Keep.refl _ _ w).alloc (Nat.le_refl _) _⟩
set_option maxHeartbeats 400000 in
theorem sclone_nil (w : World) : Calls Try.prog 17 #[.pointer none] w fun e w' => e = .returned (.pointer none) ∧ w' = w := by
  go_enter Try.func17, Try.ntmps17
  go_wp2_with fail
  refine (none_nil _).mono ?_
  rintro e w' ⟨rfl, rfl⟩
  go_wp2_with fail
  go_ret
  exact ⟨rfl, rfl⟩
end Go.Proofs.Ytlceepknoijndaa
