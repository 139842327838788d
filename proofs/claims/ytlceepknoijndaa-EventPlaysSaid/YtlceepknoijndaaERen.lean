/- The reference's Enable where the service stays as it is. -/
import Derived.Test.YtlceepknoijndaaERef
namespace Go.Proofs.Ytlceepknoijndaa
set_option linter.unusedVariables false
set_option linter.unusedSimpArgs false
open Go.RowKit
def REPost (w : World) (s : St) (A : Option Addr) (n c : Nat) (O : Option Addr) (m d : Nat) (z : Int) (e : Ending) (w' : World) : Prop := e = .returned (.tuple #[ragg s A n c O m d, .int .i64 z]) ∧ Keep w.heap.size [] w w'
theorem rcell8 {w : World} {v : Nat} {t : TypeId} {s : St} {A : Option Addr} {n c : Nat} {O : Option Addr} {m d : Nat} (h : Blk w v t (rcells s A n c O m d)) : w.cell? ⟨v, 0, none⟩ = some (.int .i64 s.most) ∧ w.cell? ⟨v, 1, none⟩ = some (.slice A n c) ∧ w.cell? ⟨v, 2, none⟩ = some (.slice O m d) ∧ w.cell? ⟨v, 3, none⟩ = some (.int .i64 s.c0) ∧ w.cell? ⟨v, 4, none⟩ = some (.int .i64 s.c1) ∧ w.cell? ⟨v, 5, none⟩ = some (.int .i64 s.c2) ∧ w.cell? ⟨v, 6, none⟩ = some (.int .i64 s.c3) ∧ w.cell? ⟨v, 7, none⟩ = some (.int .i64 s.c4) :=
  ⟨h.cell 0, h.cell 1, h.cell 2, h.cell 3, h.cell 4, h.cell 5, h.cell 6, h.cell 7⟩
theorem kw2 (w : World) (o o2 : Obj) : Keep w.heap.size [] w ((w.alloc o).alloc o2) := by
  have k1 : Keep w.heap.size [] w (w.alloc o) := (Keep.refl _ _ w).alloc (Nat.le_refl _) o
  exact k1.alloc k1.size o2
set_option maxRecDepth 100000 in
set_option maxHeartbeats 4000000 in
theorem ren_same (w : World) (s : St) (A : Option Addr) (n c : Nat) (O : Option Addr) (m d : Nat) (id : Int) (on : Bool) (z : Int) (hR : RS w s A n c O m d) (hm : m ≤ 100000)
    (hc : (id < 0 ∧ z = 1) ∨ (0 ≤ id ∧ 65535 < id ∧ z = 1) ∨ (0 ≤ id ∧ id ≤ 65535 ∧ on = false ∧ findZ s.off id = -1 ∧ 256 ≤ m ∧ z = 7) ∨ (0 ≤ id ∧ id ≤ 65535 ∧ on = false ∧ 0 ≤ findZ s.off id ∧ z = 0) ∨ (0 ≤ id ∧ id ≤ 65535 ∧ on = true ∧ findZ s.off id = -1 ∧ z = 0)) :
    Calls Try.prog 16 #[ragg s A n c O m d, .int .i64 id, .bool on] w (REPost w s A n c O m d z) := by
  have kw := kw2 w (.cells (rcells s A n c O m d) 42) (.cells #[.int .i64 0, .slice none 0 0, .slice none 0 0, .int .i64 0, .int .i64 0, .int .i64 0, .int .i64 0, .int .i64 0] 42)
  have R0 := Lib.hid (hR.keep0 kw)
  have hmd := hR.md
  obtain ⟨h0, h1, h2, h3, h4, h5, h6, h7⟩ := rcell8 ((Blk.new w 42 (rcells s A n c O m d)).alloc (.cells #[.int .i64 0, .slice none 0 0, .slice none 0 0, .int .i64 0, .int .i64 0, .int .i64 0, .int .i64 0, .int .i64 0] 42))
  clear hR
  rcases hc with ⟨q1, rfl⟩ | ⟨q1, q2, rfl⟩ | ⟨q1, q2, rfl, q3, q4, rfl⟩ | ⟨q1, q2, rfl, q3, rfl⟩ | ⟨q1, q2, rfl, q3, rfl⟩
  · go_enter Try.func16, Try.ntmps16
    go_wp2_with fail
    refine bodyPost_ret (v := .tuple #[ragg s A n c O m d, .int .i64 1]) (by simp [results, Try.results16, go_sem, h0, h1, h2, h3, h4, h5, h6, h7]) rfl ⟨rfl, ?_⟩
    repeat (first | exact kw2 w _ _ | refine Keep.setN ?_ (by simp <;> omega))
  · go_enter Try.func16, Try.ntmps16
    go_wp2_with fail
    refine bodyPost_ret (v := .tuple #[ragg s A n c O m d, .int .i64 1]) (by simp [results, Try.results16, go_sem, h0, h1, h2, h3, h4, h5, h6, h7]) rfl ⟨rfl, ?_⟩
    repeat (first | exact kw2 w _ _ | refine Keep.setN ?_ (by simp <;> omega))
  · have HF := Lib.hid q3
    have q5 : (256 : Int) ≤ (m : Int) := by omega
    clear q3
    go_enter Try.func16, Try.ntmps16
    go_wp2_with fail
    refine (find_any _ O m d s.off id (-1) (by omega) hmd (R0.out.of) HF.out).mono ?_
    rintro e w' ⟨rfl, hw⟩
    rw [hw]
    go_wp2_with fail
    refine bodyPost_ret (v := .tuple #[ragg s A n c O m d, .int .i64 7]) (by simp [results, Try.results16, go_sem, h0, h1, h2, h3, h4, h5, h6, h7]) rfl ⟨rfl, ?_⟩
    repeat (first | exact kw2 w _ _ | refine Keep.setN ?_ (by simp <;> omega))
  · obtain ⟨p, hp⟩ : ∃ p, findZ s.off id = p := ⟨_, rfl⟩
    have HF := Lib.hid hp
    rw [hp] at q3
    clear hp
    go_enter Try.func16, Try.ntmps16
    go_wp2_with fail
    refine (find_any _ O m d s.off id p (by omega) hmd (R0.out.of) HF.out).mono ?_
    rintro e w' ⟨rfl, hw⟩
    rw [hw]
    go_wp2_with fail
    refine bodyPost_ret (v := .tuple #[ragg s A n c O m d, .int .i64 0]) (by simp [results, Try.results16, go_sem, h0, h1, h2, h3, h4, h5, h6, h7]) rfl ⟨rfl, ?_⟩
    repeat (first | exact kw2 w _ _ | refine Keep.setN ?_ (by simp <;> omega))
  · have HF := Lib.hid q3
    clear q3
    go_enter Try.func16, Try.ntmps16
    go_wp2_with fail
    refine (find_any _ O m d s.off id (-1) (by omega) hmd (R0.out.of) HF.out).mono ?_
    rintro e w' ⟨rfl, hw⟩
    rw [hw]
    go_wp2_with fail
    refine bodyPost_ret (v := .tuple #[ragg s A n c O m d, .int .i64 0]) (by simp [results, Try.results16, go_sem, h0, h1, h2, h3, h4, h5, h6, h7]) rfl ⟨rfl, ?_⟩
    repeat (first | exact kw2 w _ _ | refine Keep.setN ?_ (by simp <;> omega))
end Go.Proofs.Ytlceepknoijndaa
