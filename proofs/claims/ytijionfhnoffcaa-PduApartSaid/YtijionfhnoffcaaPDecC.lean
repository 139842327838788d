/- The program's Decode: the deferred closure. -/
import Derived.Test.YtijionfhnoffcaaPDec1
import Derived.Recover
namespace Go.Proofs.Ytijionfhnoffcaa
set_option linter.unusedVariables false
set_option linter.unusedSimpArgs false
open Go.RowKit
abbrev mal : Value := .iface 57 (.agg #[])
set_option maxRecDepth 100000 in
set_option maxHeartbeats 4000000 in
theorem catch_idle (r e : Nat) (w : World) :
    CallsD Try.prog 36 #[.pointer (some ⟨r, 0, none⟩), .pointer (some ⟨e, 0, none⟩)] .returning w fun en u' w' => en = .returned (.tuple #[]) ∧ u' = .returning ∧ w' = w := by
  refine callsD_of_wpS Try.func36 rfl fun c₀ cs hu => ?_
  apply wpS_seq
  apply wpS_region
  simp [wpOpsS, go_sem, recoverD, hu, Try.ntmps36, Exit.thenS, Array.replicate, List.replicate]
  refine wpS_of_wp ?_
  go_wp2_with fail
  cases c₀
  simp_all [bodyPostS, results, Try.results36]
set_option maxRecDepth 100000 in
set_option maxHeartbeats 4000000 in
theorem catch_mal (r e : Nat) (older : List PanicEntry) (w : World) (p : Pd) (l : Lc) (z : Int) (hne : r ≠ e) (hr : Blk w r TP (pcs p l)) (he : Blk w e 26 #[.int .i64 z]) :
    CallsD Try.prog 36 #[.pointer (some ⟨r, 0, none⟩), .pointer (some ⟨e, 0, none⟩)] (.panicking ({ v := mal, recovered := false } :: older)) w fun en u' w' => en = .returned (.tuple #[]) ∧ u' = .panicking ({ v := mal, recovered := true } :: older) ∧ Keep w.heap.size [r, e] w w' ∧ Blk w' r TP (pcs zP zL) ∧ Blk w' e 26 #[.int .i64 4] := by
  have hta : ∀ (W : World) (xT : TypeId), (Instr.typeAssert mal xT 57 true).run Try.prog W = .ok (.tuple #[.agg #[], .bool true]) W := fun W xT => by
    simp [Instr.typeAssert, run_underlying Try.underlying57, go_sem, Result.andThen]
  refine callsD_of_wpS Try.func36 rfl fun c₀ cs hu => ?_
  apply wpS_seq
  apply wpS_region
  simp [wpOpsS, go_sem, recoverD, hu, Try.ntmps36, Exit.thenS, Array.replicate, List.replicate]
  refine wpS_of_wp ?_
  have hr' : Blk (w.alloc (.cells #[] 57)) r TP (pcs p l) := hr.alloc _
  have he' : Blk (w.alloc (.cells #[] 57)) e 26 #[.int .i64 z] := he.alloc _
  have k1 : Keep w.heap.size [r, e] w (w.alloc (.cells #[] 57)) := (Keep.refl _ _ _).alloc (Nat.le_refl _) _
  have x0 : (w.alloc (.cells #[] 57)).cell? ⟨r, 0, none⟩ = some (.int .i64 p.kind) := hr'.cell 0
  have y0 : (w.alloc (.cells #[] 57)).frozen? ⟨r, 0, none⟩ = false := hr'.frozen 0
  have x1 : (w.alloc (.cells #[] 57)).cell? ⟨r, 1, none⟩ = some (.int .i64 p.src) := hr'.cell 1
  have y1 : (w.alloc (.cells #[] 57)).frozen? ⟨r, 1, none⟩ = false := hr'.frozen 1
  have x2 : (w.alloc (.cells #[] 57)).cell? ⟨r, 2, none⟩ = some (.int .i64 p.num) := hr'.cell 2
  have y2 : (w.alloc (.cells #[] 57)).frozen? ⟨r, 2, none⟩ = false := hr'.frozen 2
  have x3 : (w.alloc (.cells #[] 57)).cell? ⟨r, 3, none⟩ = some (.int .i64 p.cls) := hr'.cell 3
  have y3 : (w.alloc (.cells #[] 57)).frozen? ⟨r, 3, none⟩ = false := hr'.frozen 3
  have x4 : (w.alloc (.cells #[] 57)).cell? ⟨r, 4, none⟩ = some (.string (strOfNums p.name)) := hr'.cell 4
  have y4 : (w.alloc (.cells #[] 57)).frozen? ⟨r, 4, none⟩ = false := hr'.frozen 4
  have x5 : (w.alloc (.cells #[] 57)).cell? ⟨r, 5, none⟩ = some (.int .i64 p.size) := hr'.cell 5
  have y5 : (w.alloc (.cells #[] 57)).frozen? ⟨r, 5, none⟩ = false := hr'.frozen 5
  have x6 : (w.alloc (.cells #[] 57)).cell? ⟨r, 6, none⟩ = some (.int .i64 p.off) := hr'.cell 6
  have y6 : (w.alloc (.cells #[] 57)).frozen? ⟨r, 6, none⟩ = false := hr'.frozen 6
  have x7 : (w.alloc (.cells #[] 57)).cell? ⟨r, 7, none⟩ = some (.slice l.D l.dn l.dc) := hr'.cell 7
  have y7 : (w.alloc (.cells #[] 57)).frozen? ⟨r, 7, none⟩ = false := hr'.frozen 7
  have x8 : (w.alloc (.cells #[] 57)).cell? ⟨r, 8, none⟩ = some (.int .u32 p.sum) := hr'.cell 8
  have y8 : (w.alloc (.cells #[] 57)).frozen? ⟨r, 8, none⟩ = false := hr'.frozen 8
  have x9 : (w.alloc (.cells #[] 57)).cell? ⟨r, 9, none⟩ = some (.int .i64 p.code) := hr'.cell 9
  have y9 : (w.alloc (.cells #[] 57)).frozen? ⟨r, 9, none⟩ = false := hr'.frozen 9
  have x10 : (w.alloc (.cells #[] 57)).cell? ⟨r, 10, none⟩ = some (.slice l.G l.gn l.gc) := hr'.cell 10
  have y10 : (w.alloc (.cells #[] 57)).frozen? ⟨r, 10, none⟩ = false := hr'.frozen 10
  go_upto_region 6 with fail
  have k2 := ((((((((((k1.setS (g := r) (i := 0) (u := .int .i64 0) (by simp)).setS (g := r) (i := 1) (u := .int .i64 0) (by simp)).setS (g := r) (i := 2) (u := .int .i64 0) (by simp)).setS (g := r) (i := 3) (u := .int .i64 0) (by simp)).setS (g := r) (i := 4) (u := .string ⟨#[]⟩) (by simp)).setS (g := r) (i := 5) (u := .int .i64 0) (by simp)).setS (g := r) (i := 6) (u := .int .i64 0) (by simp)).setS (g := r) (i := 7) (u := .slice none 0 0) (by simp)).setS (g := r) (i := 8) (u := .int .u32 0) (by simp)).setS (g := r) (i := 9) (u := .int .i64 0) (by simp)).setS (g := r) (i := 10) (u := .slice none 0 0) (by simp)
  have hr2 := (((((((((((hr'.set_ 0 (.int .i64 0)).set_ 1 (.int .i64 0)).set_ 2 (.int .i64 0)).set_ 3 (.int .i64 0)).set_ 4 (.string ⟨#[]⟩)).set_ 5 (.int .i64 0)).set_ 6 (.int .i64 0)).set_ 7 (.slice none 0 0)).set_ 8 (.int .u32 0)).set_ 9 (.int .i64 0)).set_ 10 (.slice none 0 0))
  have he2 := (((((((((((he'.far (p := ⟨r, 0, none⟩) (Ne.symm hne) (.int .i64 0)).far (p := ⟨r, 1, none⟩) (Ne.symm hne) (.int .i64 0)).far (p := ⟨r, 2, none⟩) (Ne.symm hne) (.int .i64 0)).far (p := ⟨r, 3, none⟩) (Ne.symm hne) (.int .i64 0)).far (p := ⟨r, 4, none⟩) (Ne.symm hne) (.string ⟨#[]⟩)).far (p := ⟨r, 5, none⟩) (Ne.symm hne) (.int .i64 0)).far (p := ⟨r, 6, none⟩) (Ne.symm hne) (.int .i64 0)).far (p := ⟨r, 7, none⟩) (Ne.symm hne) (.slice none 0 0)).far (p := ⟨r, 8, none⟩) (Ne.symm hne) (.int .u32 0)).far (p := ⟨r, 9, none⟩) (Ne.symm hne) (.int .i64 0)).far (p := ⟨r, 10, none⟩) (Ne.symm hne) (.slice none 0 0))
  obtain ⟨W2, hW2⟩ : ∃ W, W = ((((((((((((w.alloc (.cells #[] 57)).setCell ⟨r, 0, none⟩ (.int .i64 0)).setCell ⟨r, 1, none⟩ (.int .i64 0)).setCell ⟨r, 2, none⟩ (.int .i64 0)).setCell ⟨r, 3, none⟩ (.int .i64 0)).setCell ⟨r, 4, none⟩ (.string ⟨#[]⟩)).setCell ⟨r, 5, none⟩ (.int .i64 0)).setCell ⟨r, 6, none⟩ (.int .i64 0)).setCell ⟨r, 7, none⟩ (.slice none 0 0)).setCell ⟨r, 8, none⟩ (.int .u32 0)).setCell ⟨r, 9, none⟩ (.int .i64 0)).setCell ⟨r, 10, none⟩ (.slice none 0 0)) := ⟨_, rfl⟩
  rw [← hW2] at k2 hr2 he2 ⊢
  clear hW2
  have x0 : W2.cell? ⟨e, 0, none⟩ = some (.int .i64 z) := he2.cell 0
  have y0 := he2.frozen 0
  go_wp2_with fail
  have e1 : ((((((((((((pcs p l).setIfInBounds 0 (.int .i64 0)).setIfInBounds 1 (.int .i64 0)).setIfInBounds 2 (.int .i64 0)).setIfInBounds 3 (.int .i64 0)).setIfInBounds 4 (.string ⟨#[]⟩)).setIfInBounds 5 (.int .i64 0)).setIfInBounds 6 (.int .i64 0)).setIfInBounds 7 (.slice none 0 0)).setIfInBounds 8 (.int .u32 0)).setIfInBounds 9 (.int .i64 0)).setIfInBounds 10 (.slice none 0 0)) = pcs zP zL := by simp [pcs, zP, zL, zeroP, strNil]
  rw [e1] at hr2
  exact ⟨rfl, _, rfl, .tuple #[], by simp [results, Try.results36], rfl, rfl, k2.setS (g := e) (by simp), hr2.far (p := ⟨e, 0, none⟩) hne _, he2.set_ 0 _⟩
end Go.Proofs.Ytijionfhnoffcaa
