/- command: find, Permitted. -/
import Derived.Test.YtfkbcflgbjncdaaCmd
namespace Go.Proofs.Ytfkbcflgbjncdaa
set_option linter.unusedVariables false
set_option linter.unusedSimpArgs false
open Go.RowKit
theorem infoRow : ∃ i, Try.prog.info? 112 = some i ∧ i.size = 5 := by
  have h : (Try.prog.info? 112).map (·.size) = some 5 := by kernel_rfl
  cases hi : Try.prog.info? 112 with
  | none => rw [hi] at h; cases h
  | some i => exact ⟨i, rfl, by rw [hi] at h; exact Option.some.inj h⟩
theorem idx_tbl (w : World) (k : Nat) (r : Rw) (hk : k < 29) (h : tblR[k]? = some r) : (Instr.index 163 (.agg tblV) (.int .i64 (k : Int))).run Try.prog w = .ok (.agg #[.string r.nm, .int .i64 r.args, .bool r.data, .int .i64 r.lo, .int .i64 r.hi]) w := by
  obtain ⟨i, hi, hs⟩ := infoRow
  rw [run_index_row Try.prog w _ _ 29 5 _ i tblV k hk Try.underlying163 Try.underlying112 hi hs]
  unfold tblV
  rw [flat_ext rwcells 5 (fun _ => rfl) tblR k r h]
abbrev rwagg (r : Rw) : Value := .agg #[.string r.nm, .int .i64 r.args, .bool r.data, .int .i64 r.lo, .int .i64 r.hi]
def zRw : Rw := ⟨⟨#[]⟩, 0, false, 0, 0⟩
/-- what find returns -/
def findC (s : Int) : Rw × Bool := if 1 ≤ s ∧ s < 29 then ((tblR[s.toNat]?).getD zRw, true) else (zRw, false)
def FcPost (w : World) (r : Rw × Bool) (e : Ending) (w' : World) : Prop := e = .returned (.tuple #[rwagg r.1, .bool r.2]) ∧ Keep w.heap.size [] w w'
theorem tbl_at (k : Nat) (h : k < 29) : ∃ r, tblR[k]? = some r := by
  have : tblR.length = 29 := by decide +kernel
  exact ⟨tblR[k]'(by omega), List.getElem?_eq_getElem (by omega)⟩
set_option maxHeartbeats 1000000 in
theorem cfind_any (w : World) (s : Int) : Calls Try.prog 47 #[.int .i64 s] w (FcPost w (findC s)) := by
  obtain ⟨r, hr⟩ : ∃ r, findC s = r := ⟨_, rfl⟩
  rw [hr]
  by_cases h1 : s < 1
  · have e : r = (zRw, false) := by rw [← hr]; unfold findC; rw [if_neg (by omega)]
    subst e
    clear hr
    go_enter Try.func47, Try.ntmps47
    go_wp2_with fail
    refine bodyPost_ret (v := .tuple #[rwagg zRw, .bool false]) (by simp [results, Try.results47, go_sem, zRw]) rfl ⟨rfl, ?_⟩
    repeat (first | with_reducible exact (Keep.refl _ _ w).alloc (Nat.le_refl _) _ | with_reducible refine Keep.setN ?_ (by simp <;> omega))
  by_cases h2 : 29 ≤ s
  · have e : r = (zRw, false) := by rw [← hr]; unfold findC; rw [if_neg (by omega)]
    subst e
    clear hr
    go_enter Try.func47, Try.ntmps47
    go_wp2_with fail
    refine bodyPost_ret (v := .tuple #[rwagg zRw, .bool false]) (by simp [results, Try.results47, go_sem, zRw]) rfl ⟨rfl, ?_⟩
    repeat (first | with_reducible exact (Keep.refl _ _ w).alloc (Nat.le_refl _) _ | with_reducible refine Keep.setN ?_ (by simp <;> omega))
  obtain ⟨k, rfl⟩ : ∃ k : Nat, s = (k : Int) := ⟨s.toNat, by omega⟩
  obtain ⟨x, hx⟩ := tbl_at k (by omega)
  have e : r = (x, true) := by rw [← hr]; unfold findC; rw [if_pos (by omega)]; simp [hx]
  have hix := fun W => idx_tbl W k x (by omega) hx
  subst e
  clear hr hx
  have b1 := Blk.new w 112 #[.string ⟨#[]⟩, .int .i64 0, .bool false, .int .i64 0, .int .i64 0]
  have K0 : Hid (Keep w.heap.size [] w (w.alloc (.cells #[.string ⟨#[]⟩, .int .i64 0, .bool false, .int .i64 0, .int .i64 0] 112))) := Lib.hid ((Keep.refl _ _ w).alloc (Nat.le_refl _) _)
  have B1 := Lib.hid b1
  clear b1
  go_enter Try.func47, Try.ntmps47
  go_wp2_with fail
  refine (table_any _).mono ?_
  rintro e w2 ⟨rfl, hk⟩
  have B2 := Lib.hid (B1.out.keepS hk (by simp))
  have K2 := Lib.hid (K0.out.chain0 (Nat.le_refl _) hk)
  have f0 := B2.out.frozen 0
  have f1 := B2.out.frozen 1
  have f2 := B2.out.frozen 2
  have f3 := B2.out.frozen 3
  have f4 := B2.out.frozen 4
  have c0 : w2.cell? ⟨w.heap.size, 0, none⟩ = some (.string ⟨#[]⟩) := B2.out.cell 0
  have c1 : w2.cell? ⟨w.heap.size, 1, none⟩ = some (.int .i64 0) := B2.out.cell 1
  have c2 : w2.cell? ⟨w.heap.size, 2, none⟩ = some (.bool false) := B2.out.cell 2
  have c3 : w2.cell? ⟨w.heap.size, 3, none⟩ = some (.int .i64 0) := B2.out.cell 3
  have c4 : w2.cell? ⟨w.heap.size, 4, none⟩ = some (.int .i64 0) := B2.out.cell 4
  clear hk
  go_wp2_with fail
  refine bodyPost_ret (v := .tuple #[rwagg x, .bool true]) (by simp [results, Try.results47, go_sem, c0, c1, c2, c3, c4]) rfl ⟨rfl, ?_⟩
  have KZ := K2.out
  repeat (first | with_reducible exact KZ | with_reducible refine Keep.setN ?_ (Nat.le_refl _))
/-- what Permitted returns -/
def permB (s m : Int) : Bool := (findC s).2 && (decide ((findC s).1.lo ≤ m) && decide (m ≤ (findC s).1.hi))
set_option maxHeartbeats 1000000 in
theorem permitted_any (w : World) (s m : Int) : Calls Try.prog 10 #[.int .i64 s, .int .i64 m] w fun e w' => e = .returned (.bool (permB s m)) ∧ Keep w.heap.size [] w w' := by
  obtain ⟨v, hv⟩ : ∃ v, permB s m = v := ⟨_, rfl⟩
  rw [hv]
  unfold permB at hv
  have h0 := fun W => cfind_any W s
  obtain ⟨⟨x, b⟩, hr⟩ : ∃ r, findC s = r := ⟨_, rfl⟩
  rw [hr] at hv
  simp only [hr] at h0
  have H0 := Lib.hid h0
  have HV := Lib.hid hv
  clear h0 hr hv
  go_enter Try.func10, Try.ntmps10
  go_wp2_with fail
  refine (H0.out _).mono ?_
  rintro e w2 ⟨rfl, hk⟩
  have K2 := Lib.hid hk
  clear hk
  cases b with
  | false =>
    have ev : v = false := by rw [← HV.out]; rfl
    subst ev
    go_wp2_with fail
    go_ret
    exact ⟨rfl, K2.out.alloc K2.out.size _⟩
  | true =>
    by_cases h1 : x.lo ≤ m
    · have ev : v = decide (m ≤ x.hi) := by rw [← HV.out]; simp [h1]
      subst ev
      go_wp2_with fail
      go_ret
      exact ⟨rfl, K2.out.alloc K2.out.size _⟩
    · have ev : v = false := by rw [← HV.out]; simp [h1]
      subst ev
      have h2 : m < x.lo := by omega
      go_wp2_with fail
      go_ret
      exact ⟨rfl, K2.out.alloc K2.out.size _⟩
end Go.Proofs.Ytfkbcflgbjncdaa
