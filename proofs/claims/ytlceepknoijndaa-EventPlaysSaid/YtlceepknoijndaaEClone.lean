/- maps.Clone of the set of numbers; the service's Clone. -/
import Derived.Test.YtlceepknoijndaaERa
import Derived.Laws.Externs
namespace Go.Proofs.Ytlceepknoijndaa
set_option linter.unusedVariables false
set_option linter.unusedSimpArgs false
open Go.RowKit
/-- the model's entry: a new block with the old entries -/
theorem run_mclone {w : World} {r : Nat} {es : Array MapEntry} {clock : Nat} (t : TypeId) (hb : w.heap[r]? = some (.map es clock)) :
    (Extern.MapsClone.clone #[.iface t (.map (some r))]).run Try.prog w = .ok (.iface t (.map (some w.heap.size))) (w.alloc (.map es clock)) := by
  have e : Extern.MapsClone.clone #[.iface t (.map (some r))] = (getObj r >>= fun o => match o with
      | .map entries clock => (newObj (.map entries clock) >>= fun n => pure (.iface t (.map (some n))))
      | _ => stuck "maps.clone: a map expected") := rfl
  rw [e]
  simp [MapKept.run_getObj_map hb, Result.andThen, go_sem]
theorem run_tassert {w : World} (t xT k e : TypeId) (v : Value) (h : Try.prog.underlying t = some (.map k e)) : (Instr.typeAssert (.iface t v) xT t false).run Try.prog w = .ok v w := by
  simp [Instr.typeAssert, run_underlying h, go_sem, Result.andThen]
set_option maxHeartbeats 2000000 in
theorem mclone_any (w : World) (r : Nat) (ks : List Int) (h : MapB w r ks) : Calls Try.prog 23 #[.map (some r)] w fun e w' => e = .returned (.map (some w.heap.size)) ∧ MapB w' w.heap.size ks ∧ Keep w.heap.size [] w w' := by
  obtain ⟨es, clock, hb, hrest⟩ := h
  have HR := Lib.hid hrest
  clear hrest
  have hq := fun W : World => run_eql_map_nil (P := Try.prog) W 54 3 4 (some r) Try.underlying54
  go_enter Try.func23, Try.ntmps23
  go_wp2
  rw [run_callFunc_extern Try.func25 (by kernel_rfl) (by kernel_rfl) (by kernel_rfl) (e := Extern.MapsClone.clone) (by kernel_rfl), run_mclone 54 hb]
  simp only [Result.andThen]
  rw [Oper.upon_value]
  go_wp2
  rw [run_tassert 54 _ 3 4 _ Try.underlying54]
  simp only [Result.andThen]
  rw [Oper.upon_value]
  go_wp2
  go_ret
  exact ⟨rfl, ⟨es, clock, heap_alloc_new w _, HR.out⟩, (Keep.refl _ _ w).alloc (Nat.le_refl _) _⟩
def ScPost (w : World) (s : St) (e : Ending) (w' : World) : Prop :=
  ∃ r A n c, e = .returned (pf w.heap.size) ∧ Sv w' w.heap.size r A n c s ∧ Keep w.heap.size [] w w' ∧ w.heap.size ≤ r ∧ ∀ y, y ∈ blks A → w.heap.size ≤ y
set_option maxHeartbeats 4000000 in
theorem sclone_any (w : World) (g r : Nat) (A : Option Addr) (n c : Nat) (s : St) (hn : n ≤ 1000000) (h : Sv w g r A n c s) : Calls Try.prog 17 #[pf g] w (ScPost w s) := by
  have H := Lib.hid h
  have d0 : w.cell? ⟨g, 0, none⟩ = some (.int .i64 s.most) := h.blk.cell 0
  have d1 : w.cell? ⟨g, 1, none⟩ = some (.slice A n c) := h.blk.cell 1
  have d2 : w.cell? ⟨g, 2, none⟩ = some (.int .i64 s.c0) := h.blk.cell 2
  have d3 : w.cell? ⟨g, 3, none⟩ = some (.int .i64 s.c1) := h.blk.cell 3
  have d4 : w.cell? ⟨g, 4, none⟩ = some (.int .i64 s.c2) := h.blk.cell 4
  have d5 : w.cell? ⟨g, 5, none⟩ = some (.int .i64 s.c3) := h.blk.cell 5
  have d6 : w.cell? ⟨g, 6, none⟩ = some (.int .i64 s.c4) := h.blk.cell 6
  have d7 : w.cell? ⟨g, 7, none⟩ = some (.map (some r)) := h.blk.cell 7
  have H1 := Lib.hid (h.keep0 ((Keep.refl _ _ w).alloc (Nat.le_refl _) (.cells (scells s r A n c) 56)))
  have B1 := Lib.hid (Blk.new w 56 (scells s r A n c))
  have d8 : ∀ o : Obj, (w.alloc o).cell? ⟨g, 1, none⟩ = some (.slice A n c) := fun o => (h.blk.alloc o).cell 1
  have hlt := h.blk.lt
  have hrt := h.mp.lt
  clear h
  go_enter Try.func17, Try.ntmps17
  go_wp2_with fail
  refine (none_any _ g r A n c s H.out).mono ?_
  rintro e w' ⟨rfl, rfl⟩
  go_wp2_with fail
  refine (clone_any _ A n c s.L hn (H1.out.sl.vw (by omega))).mono ?_
  rintro e w2 ⟨A2, c2, rfl, hs, hk, hb⟩
  have H2 := Lib.hid (H1.out.keep0 hk)
  have B2 := Lib.hid (B1.out.keepS hk (by simp))
  have SL2 := Lib.hid hs
  have HB2 : Hid (∀ y, y ∈ blks A2 → w'.heap.size < y) := Lib.hid (fun y hy => by have := hb y hy; simp at this; omega)
  have K2 : Hid (Keep w'.heap.size [] w' w2) := Lib.hid (((Keep.refl _ _ w').alloc (Nat.le_refl _) _).chain0 (Nat.le_refl _) hk)
  have f2 := B2.out.frozen 1
  have e1 : w2.cell? ⟨w'.heap.size, 1, none⟩ = some (.slice A n c) := B2.out.cell 1
  clear hs hk hb H1 B1 d0 d1 d2 d3 d4 d5 d6 d7 d8
  have d7 : (w2.setCell ⟨w'.heap.size, 1, none⟩ (.slice A2 n c2)).cell? ⟨g, 7, none⟩ = some (.map (some r)) := (H2.out.blk.far (p := ⟨w'.heap.size, 1, none⟩) (by simp only; omega) _).cell 7
  go_wp2_with fail
  obtain ⟨W3, hW3⟩ : ∃ W, W = w2.setCell ⟨w'.heap.size, 1, none⟩ (.slice A2 n c2) := ⟨_, rfl⟩
  have hA2 : w'.heap.size ∉ blks A2 := fun h => by have := HB2.out _ h; omega
  have M3 : Hid (MapB W3 r s.off) := Lib.hid (by rw [hW3]; exact H2.out.mp.far (p := ⟨w'.heap.size, 1, none⟩) (by simp only; omega) _)
  have B3 : Hid (Blk W3 w'.heap.size 56 (scells s r A2 n c2)) := Lib.hid (by rw [hW3]; exact B2.out.set_ 1 (.slice A2 n c2))
  have S3 : Hid (Sl W3 31 4 A2 n c2 (evs s.L)) := Lib.hid (by rw [hW3]; exact SL2.out.far _ hA2)
  have K3 : Hid (Keep w'.heap.size [] w' W3) := Lib.hid (by rw [hW3]; exact K2.out.setN (Nat.le_refl _))
  rw [← hW3] at d7 ⊢
  clear hW3 f2 e1 B2 SL2 K2
  refine (mclone_any _ r s.off M3.out).mono ?_
  rintro e w4 ⟨rfl, hm, hk⟩
  have hz3 := K3.out.size
  have hlt3 := B3.out.lt
  obtain ⟨r', hr'⟩ : ∃ r', W3.heap.size = r' := ⟨_, rfl⟩
  rw [hr'] at hm ⊢
  have B4 := Lib.hid (B3.out.keepS hk (by simp))
  have S4 := Lib.hid (S3.out.keep0 hk)
  have M4 := Lib.hid hm
  have K4 := Lib.hid (K3.out.chain0 (Nat.le_refl _) hk)
  have RA : Hid (r' ∉ blks A2) := Lib.hid (fun hx => by have := S3.out.blk hx; omega)
  have HA := Lib.hid hA2
  have RR : Hid (w'.heap.size < r') := Lib.hid (by omega)
  have f7 := B4.out.frozen 7
  have e7 : w4.cell? ⟨w'.heap.size, 7, none⟩ = some (.map (some r)) := B4.out.cell 7
  clear hm hk hr' B3 S3 M3 K3 hA2 d7
  go_wp2_with fail
  go_ret
  refine ⟨r', A2, n, c2, rfl, ⟨B4.out.set_ 7 (.map (some r')), S4.out.far _ HA.out, H.out.len, M4.out.far (p := ⟨w'.heap.size, 7, none⟩) (by simp only; have := RR.out; omega) _, by have := RR.out; omega, HA.out, RA.out⟩, K4.out.setN (Nat.le_refl _), by have := RR.out; omega, fun y hy => by have := HB2.out y hy; omega⟩
end Go.Proofs.Ytlceepknoijndaa
