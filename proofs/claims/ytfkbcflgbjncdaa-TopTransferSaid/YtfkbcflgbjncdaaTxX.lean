/- The protocol data units: rest, empty, Valid. -/
import Derived.Test.YtfkbcflgbjncdaaTxW
namespace Go.Proofs.Ytfkbcflgbjncdaa
set_option linter.unusedVariables false
set_option linter.unusedSimpArgs false
open Go.RowKit
def restL (p : Pd) (l : Lc) : Lc :=
  if p.kind = 2 then { l with D := none, dn := 0, dc := 0 }
  else if p.kind = 4 then { l with G := none, gn := 0, gc := 0 }
  else l
def zP : Pd := zeroP 0 0 0
def zL : Lc := ⟨none, 0, 0, none, 0, 0⟩
theorem restP_in {w : World} {p : Pd} {l : Lc} (h : PIn w p l) : PIn w (restP p) (restL p l) := by
  unfold restP restL
  split
  · rename_i hk
    simp only [hk]
    exact ⟨(by intro x hx; cases hx), h.od, h.vd, h.vg, h.cd, h.cg, by simp, h.dl, h.gl, h.sm⟩
  split
  · exact ⟨h.on, (by intro x hx; cases hx), Vw.nil _ _, h.vg, ⟨Nat.le_refl _, Nat.zero_le _⟩, h.cg, h.nl, Nat.zero_le _, h.gl, h.sm⟩
  split
  · rename_i hk
    simp only [hk]
    exact ⟨h.on, h.od, h.vd, h.vg, h.cd, h.cg, h.nl, h.dl, h.gl, by simp⟩
  split
  · exact ⟨h.on, h.od, h.vd, Vw.nil _ _, h.cd, ⟨Nat.le_refl _, Nat.zero_le _⟩, h.nl, h.dl, Nat.zero_le _, h.sm⟩
  split
  · exact ⟨h.on, h.od, h.vd, h.vg, h.cd, h.cg, h.nl, h.dl, h.gl, h.sm⟩
  · exact h
theorem strNil : strOfNums [] = (⟨#[]⟩ : ByteArray) := rfl
set_option maxHeartbeats 4000000 in
theorem rest_any (w : World) (p : Pd) (l : Lc) : Calls Try.prog 125 #[.agg (pcs p l)] w fun e w' => e = .returned (.agg (pcs (restP p) (restL p l))) ∧ Keep w.heap.size [] w w' := by
  have K1 : Hid (∀ cs t cs' t', Keep w.heap.size [] w ((w.alloc (.cells cs t)).alloc (.cells cs' t'))) := Lib.hid (fun cs t cs' t' => ((Keep.refl _ _ w).alloc (Nat.le_refl _) _).alloc (by simp) _)
  have e0 : pcs p l = #[.int .i64 p.kind, .int .i64 p.src, .int .i64 p.num, .int .i64 p.cls, .string (strOfNums p.name), .int .i64 p.size, .int .i64 p.off, .slice l.D l.dn l.dc, .int .u32 p.sum, .int .i64 p.code, .slice l.G l.gn l.gc] := rfl
  rw [e0]
  by_cases h1 : p.kind = 1
  · have e : pcs (restP p) (restL p l) = #[.int .i64 p.kind, .int .i64 p.src, .int .i64 p.num, .int .i64 0, .string ⟨#[]⟩, .int .i64 0, .int .i64 p.off, .slice l.D l.dn l.dc, .int .u32 p.sum, .int .i64 p.code, .slice l.G l.gn l.gc] := by
      unfold pcs restP restL; simp [h1]; rfl
    have HE := Lib.hid e
    obtain ⟨s, hs⟩ : ∃ s, strOfNums p.name = s := ⟨_, rfl⟩
    rw [hs]
    clear e hs e0
    go_enter Try.func125, Try.ntmps125
    go_wp2_with fail
    refine bodyPost_ret (v := .agg #[.int .i64 p.kind, .int .i64 p.src, .int .i64 p.num, .int .i64 0, .string ⟨#[]⟩, .int .i64 0, .int .i64 p.off, .slice l.D l.dn l.dc, .int .u32 p.sum, .int .i64 p.code, .slice l.G l.gn l.gc]) (by simp [results, Try.results125, go_sem, h1]) rfl ?_
    exact ⟨by rw [HE.out], K1.out _ _ _ _⟩
  by_cases h2 : p.kind = 2
  · have e : pcs (restP p) (restL p l) = #[.int .i64 p.kind, .int .i64 p.src, .int .i64 p.num, .int .i64 p.cls, .string (strOfNums p.name), .int .i64 p.size, .int .i64 0, .slice none 0 0, .int .u32 p.sum, .int .i64 p.code, .slice l.G l.gn l.gc] := by
      unfold pcs restP restL; simp [h2]
    have HE := Lib.hid e
    obtain ⟨s, hs⟩ : ∃ s, strOfNums p.name = s := ⟨_, rfl⟩
    rw [hs] at HE ⊢
    clear e hs e0
    go_enter Try.func125, Try.ntmps125
    go_wp2_with fail
    refine bodyPost_ret (v := .agg #[.int .i64 p.kind, .int .i64 p.src, .int .i64 p.num, .int .i64 p.cls, .string s, .int .i64 p.size, .int .i64 0, .slice none 0 0, .int .u32 p.sum, .int .i64 p.code, .slice l.G l.gn l.gc]) (by simp [results, Try.results125, go_sem, h2]) rfl ?_
    exact ⟨by rw [HE.out], K1.out _ _ _ _⟩
  by_cases h3 : p.kind = 3
  · have e : pcs (restP p) (restL p l) = #[.int .i64 p.kind, .int .i64 p.src, .int .i64 p.num, .int .i64 0, .string (strOfNums p.name), .int .i64 0, .int .i64 p.off, .slice l.D l.dn l.dc, .int .u32 0, .int .i64 0, .slice l.G l.gn l.gc] := by
      unfold pcs restP restL; simp [h3]
    have HE := Lib.hid e
    obtain ⟨s, hs⟩ : ∃ s, strOfNums p.name = s := ⟨_, rfl⟩
    rw [hs] at HE ⊢
    clear e hs e0
    go_enter Try.func125, Try.ntmps125
    go_wp2_with fail
    refine bodyPost_ret (v := .agg #[.int .i64 p.kind, .int .i64 p.src, .int .i64 p.num, .int .i64 0, .string s, .int .i64 0, .int .i64 p.off, .slice l.D l.dn l.dc, .int .u32 0, .int .i64 0, .slice l.G l.gn l.gc]) (by simp [results, Try.results125, go_sem, h3]) rfl ?_
    exact ⟨by rw [HE.out], K1.out _ _ _ _⟩
  by_cases h4 : p.kind = 4
  · have e : pcs (restP p) (restL p l) = #[.int .i64 p.kind, .int .i64 p.src, .int .i64 p.num, .int .i64 p.cls, .string (strOfNums p.name), .int .i64 p.size, .int .i64 p.off, .slice l.D l.dn l.dc, .int .u32 p.sum, .int .i64 p.code, .slice none 0 0] := by
      unfold pcs restP restL; simp [h4]
    have HE := Lib.hid e
    obtain ⟨s, hs⟩ : ∃ s, strOfNums p.name = s := ⟨_, rfl⟩
    rw [hs] at HE ⊢
    clear e hs e0
    go_enter Try.func125, Try.ntmps125
    go_wp2_with fail
    refine bodyPost_ret (v := .agg #[.int .i64 p.kind, .int .i64 p.src, .int .i64 p.num, .int .i64 p.cls, .string s, .int .i64 p.size, .int .i64 p.off, .slice l.D l.dn l.dc, .int .u32 p.sum, .int .i64 p.code, .slice none 0 0]) (by simp [results, Try.results125, go_sem, h4]) rfl ?_
    exact ⟨by rw [HE.out], K1.out _ _ _ _⟩
  by_cases h5 : p.kind = 5
  · have e : pcs (restP p) (restL p l) = #[.int .i64 p.kind, .int .i64 p.src, .int .i64 p.num, .int .i64 p.cls, .string (strOfNums p.name), .int .i64 p.size, .int .i64 p.off, .slice l.D l.dn l.dc, .int .u32 p.sum, .int .i64 0, .slice l.G l.gn l.gc] := by
      unfold pcs restP restL; simp [h5]
    have HE := Lib.hid e
    obtain ⟨s, hs⟩ : ∃ s, strOfNums p.name = s := ⟨_, rfl⟩
    rw [hs] at HE ⊢
    clear e hs e0
    go_enter Try.func125, Try.ntmps125
    go_wp2_with fail
    refine bodyPost_ret (v := .agg #[.int .i64 p.kind, .int .i64 p.src, .int .i64 p.num, .int .i64 p.cls, .string s, .int .i64 p.size, .int .i64 p.off, .slice l.D l.dn l.dc, .int .u32 p.sum, .int .i64 0, .slice l.G l.gn l.gc]) (by simp [results, Try.results125, go_sem, h5]) rfl ?_
    exact ⟨by rw [HE.out], K1.out _ _ _ _⟩
  have e : pcs (restP p) (restL p l) = #[.int .i64 p.kind, .int .i64 p.src, .int .i64 p.num, .int .i64 p.cls, .string (strOfNums p.name), .int .i64 p.size, .int .i64 p.off, .slice l.D l.dn l.dc, .int .u32 p.sum, .int .i64 p.code, .slice l.G l.gn l.gc] := by
    unfold pcs restP restL; simp [h1, h2, h3, h4, h5]
  have HE := Lib.hid e
  obtain ⟨s, hs⟩ : ∃ s, strOfNums p.name = s := ⟨_, rfl⟩
  rw [hs] at HE ⊢
  clear e hs e0
  go_enter Try.func125, Try.ntmps125
  go_wp2_with fail
  refine bodyPost_ret (v := .agg #[.int .i64 p.kind, .int .i64 p.src, .int .i64 p.num, .int .i64 p.cls, .string s, .int .i64 p.size, .int .i64 p.off, .slice l.D l.dn l.dc, .int .u32 p.sum, .int .i64 p.code, .slice l.G l.gn l.gc]) (by simp [results, Try.results125, go_sem, h1, h2, h3, h4, h5]) rfl ?_
  exact ⟨by rw [HE.out], K1.out _ _ _ _⟩
theorem name_nil {L : List Int} : (strOfNums L).toList = [] ↔ L = [] := by
  have h : ∀ s : ByteArray, s.toList = [] ↔ s.size = 0 := by
    intro s
    have e : s.toList = s.data.toList := ByteArray.toList_eq s
    rw [e]
    constructor
    · intro h; rw [ByteArray.size, ← Array.length_toList, h]; rfl
    · intro h; exact List.length_eq_zero_iff.1 (by rw [Array.length_toList]; exact h)
  rw [h, strOfNums_size, List.length_eq_zero_iff]
set_option maxHeartbeats 4000000 in
theorem empty_b (w : World) (p : Pd) (l : Lc) (v : Bool) (hp : PIn w p l) (hv : emptyB p = v) : Calls Try.prog 124 #[.agg (pcs p l)] w fun e w' => e = .returned (.bool v) ∧ Keep w.heap.size [] w w' := by
  have K1 : Hid (∀ cs t, Keep w.heap.size [] w (w.alloc (.cells cs t))) := Lib.hid (fun cs t => (Keep.refl _ _ w).alloc (Nat.le_refl _) _)
  have hn : (strOfNums p.name).toList = [] ↔ p.name = [] := name_nil
  have hd : l.dn = 0 ↔ p.data = [] := by rw [hp.dlen, List.length_eq_zero_iff]
  have hg : l.gn = 0 ↔ p.gaps = [] := by rw [hp.glen, List.length_eq_zero_iff]
  unfold pcs
  obtain ⟨s, hs⟩ : ∃ s, strOfNums p.name = s := ⟨_, rfl⟩
  rw [hs] at hn ⊢
  have HNN := Lib.hid hn
  have HDD := Lib.hid hd
  have HGG := Lib.hid hg
  have HV := Lib.hid hv
  clear hn hd hg hv hs hp
  go_enter Try.func124, Try.ntmps124
  go_wp2_with fail
  all_goals
    go_ret
    refine ⟨?_, K1.out _ _⟩
    have hn := HNN.out
    have hd := HDD.out
    have hg := HGG.out
    rw [← HV.out]
    unfold emptyB
    simp_all
    try (by_cases hgz : p.gaps = [] <;> simp_all)
end Go.Proofs.Ytfkbcflgbjncdaa
