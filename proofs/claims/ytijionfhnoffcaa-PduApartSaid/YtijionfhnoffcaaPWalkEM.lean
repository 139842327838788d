/- The reference's units: Valid, each kind. -/
import Derived.Test.YtijionfhnoffcaaPWalkE
namespace Go.Proofs.Ytijionfhnoffcaa
set_option linter.unusedVariables false
set_option linter.unusedSimpArgs false
open Go.RowKit
set_option maxRecDepth 100000 in
set_option maxHeartbeats 16000000 in
theorem rvalid_0 (w : World) (p : Pd) (l : Lc) (v : Bool) (hp : PIn w p l) (hh : headB p = true) (hk : 5 < p.kind) (hv : validP p = v) : Calls Try.prog 13 #[.agg (pcs p l)] w fun e w' => e = .returned (.bool v) ∧ Keep w.heap.size [] w w' := by
  have K1 : Hid (∀ cs t, Keep w.heap.size [] w (w.alloc (.cells cs t))) := Lib.hid (fun cs t => (Keep.refl _ _ w).alloc (Nat.le_refl _) _)
  have B1 : Hid (∀ cs t, Blk (w.alloc (.cells cs t)) w.heap.size t cs) := Lib.hid (fun cs t => Blk.new w _ _)
  have P1 : Hid (∀ cs t, PIn (w.alloc (.cells cs t)) p l) := Lib.hid (fun cs t => hp.keep0 ((Keep.refl _ _ w).alloc (Nat.le_refl _) _))
  have HO := Lib.hid hp.on
  have CG := Lib.hid hp.cg
  have HNL := Lib.hid hp.nl
  have HNN := Lib.hid (name_nil (L := p.name))
  have HDD : Hid (l.dn = p.data.length) := Lib.hid hp.dlen
  have HGG : Hid (l.gn = p.gaps.length) := Lib.hid hp.glen
  have hdl := hp.dl
  have hgl := hp.gl
  obtain ⟨kind, src, num, cls, name, size, off, data, sum, code, gaps⟩ := p
  have HH := Lib.hid hh
  unfold headB at hh
  simp only [Bool.and_eq_true, inB_iff] at hh
  obtain ⟨⟨a1, a2⟩, ⟨a3, a4⟩, a5, a6⟩ := hh
  simp only at hk a1 a2 a3 a4 a5 a6 HO HNL HNN HDD HGG
  have HV := Lib.hid hv
  clear hv hp
  have n1 : ¬ kind = 1 := by omega
  have n2 : ¬ kind = 2 := by omega
  have n3 : ¬ kind = 3 := by omega
  have n4 : ¬ kind = 4 := by omega
  have n5 : ¬ kind = 5 := by omega
  have C1 : classedB kind = false := by simp [classedB, *]
  have C2 : codedB kind = false := by simp [codedB, *]
  unfold pcs
  simp only
  go_enter Try.func13, Try.ntmps13
  go_wp2_with fail
  iterate 8
    try all_goals
      try ((first
        | (refine (classed_b _ _ _ C1).mono ?_
           rintro e w' ⟨rfl, rfl⟩)
        | (refine (coded_b _ _ _ C2).mono ?_
           rintro e w' ⟨rfl, rfl⟩)
        | (refine (rnamed_b _ _ _ HO.out HNL.out rfl).mono ?_
           rintro e w' ⟨rfl, rfl⟩)
        | (refine (rgaps_b _ l.G l.gn l.gc gaps _ CG.out.1 CG.out.2 hgl (P1.out _ _).vg rfl).mono ?_
           rintro e w2 ⟨rfl, hk2⟩
           have K2 := Lib.hid ((K1.out _ _).chain0 (Nat.le_refl _) hk2)
           have b2 := (B1.out _ _).keepS hk2 (by simp)
           have q0 : w2.cell? ⟨w.heap.size, 0, none⟩ = some (.int .i64 kind) := b2.cell 0
           have q6 : w2.cell? ⟨w.heap.size, 6, none⟩ = some (.int .i64 off) := b2.cell 6
           have q7 : w2.cell? ⟨w.heap.size, 7, none⟩ = some (.slice l.D l.dn l.dc) := b2.cell 7
           have qA : w2.cell? ⟨w.heap.size, 10, none⟩ = some (.slice l.G l.gn l.gc) := b2.cell 10
           clear b2)) <;> go_wp2_with fail)
  all_goals
    go_ret
  all_goals
    refine ⟨?_, by first | exact K1.out _ _ | exact K2.out⟩
    have hn := HNN.out
    have hd := HDD.out
    have hg := HGG.out
    rw [← HV.out]
    simp_all [validP, headB, restP, emptyB, bodyB, inB, strOfNums]
  all_goals first | done | exact len0 _ | (cases data <;> simp <;> omega) | (intros; intro hgz; have h0 := congrArg List.length hgz; simp only [List.length_nil] at h0; omega) | (intros; exfalso; omega) | (intros; simp_all; done) | (intros; simp_all; omega)
set_option maxRecDepth 100000 in
set_option maxHeartbeats 16000000 in
theorem rvalid_1 (w : World) (p : Pd) (l : Lc) (v : Bool) (hp : PIn w p l) (hh : headB p = true) (hk : p.kind = 1) (hv : validP p = v) : Calls Try.prog 13 #[.agg (pcs p l)] w fun e w' => e = .returned (.bool v) ∧ Keep w.heap.size [] w w' := by
  have K1 : Hid (∀ cs t, Keep w.heap.size [] w (w.alloc (.cells cs t))) := Lib.hid (fun cs t => (Keep.refl _ _ w).alloc (Nat.le_refl _) _)
  have B1 : Hid (∀ cs t, Blk (w.alloc (.cells cs t)) w.heap.size t cs) := Lib.hid (fun cs t => Blk.new w _ _)
  have P1 : Hid (∀ cs t, PIn (w.alloc (.cells cs t)) p l) := Lib.hid (fun cs t => hp.keep0 ((Keep.refl _ _ w).alloc (Nat.le_refl _) _))
  have HO := Lib.hid hp.on
  have CG := Lib.hid hp.cg
  have HNL := Lib.hid hp.nl
  have HNN := Lib.hid (name_nil (L := p.name))
  have HDD : Hid (l.dn = p.data.length) := Lib.hid hp.dlen
  have HGG : Hid (l.gn = p.gaps.length) := Lib.hid hp.glen
  have hdl := hp.dl
  have hgl := hp.gl
  obtain ⟨kind, src, num, cls, name, size, off, data, sum, code, gaps⟩ := p
  have HH := Lib.hid hh
  unfold headB at hh
  simp only [Bool.and_eq_true, inB_iff] at hh
  obtain ⟨⟨a1, a2⟩, ⟨a3, a4⟩, a5, a6⟩ := hh
  simp only at hk a1 a2 a3 a4 a5 a6 HO HNL HNN HDD HGG
  have HV := Lib.hid hv
  clear hv hp
  subst hk
  have C1 : classedB 1 = true := by decide
  have C2 : codedB 1 = false := by decide
  unfold pcs
  simp only
  go_enter Try.func13, Try.ntmps13
  go_wp2_with fail
  iterate 8
    try all_goals
      try ((first
        | (refine (classed_b _ _ _ C1).mono ?_
           rintro e w' ⟨rfl, rfl⟩)
        | (refine (coded_b _ _ _ C2).mono ?_
           rintro e w' ⟨rfl, rfl⟩)
        | (refine (rnamed_b _ _ _ HO.out HNL.out rfl).mono ?_
           rintro e w' ⟨rfl, rfl⟩)
        | (refine (rgaps_b _ l.G l.gn l.gc gaps _ CG.out.1 CG.out.2 hgl (P1.out _ _).vg rfl).mono ?_
           rintro e w2 ⟨rfl, hk2⟩
           have K2 := Lib.hid ((K1.out _ _).chain0 (Nat.le_refl _) hk2)
           have b2 := (B1.out _ _).keepS hk2 (by simp)
           have q0 : w2.cell? ⟨w.heap.size, 0, none⟩ = some (.int .i64 1) := b2.cell 0
           have q6 : w2.cell? ⟨w.heap.size, 6, none⟩ = some (.int .i64 off) := b2.cell 6
           have q7 : w2.cell? ⟨w.heap.size, 7, none⟩ = some (.slice l.D l.dn l.dc) := b2.cell 7
           have qA : w2.cell? ⟨w.heap.size, 10, none⟩ = some (.slice l.G l.gn l.gc) := b2.cell 10
           clear b2)) <;> go_wp2_with fail)
  all_goals
    go_ret
  all_goals
    refine ⟨?_, by first | exact K1.out _ _ | exact K2.out⟩
    have hn := HNN.out
    have hd := HDD.out
    have hg := HGG.out
    rw [← HV.out]
    simp_all [validP, headB, restP, emptyB, bodyB, inB, strOfNums]
  all_goals first | done | exact len0 _ | (cases data <;> simp <;> omega) | (intros; intro hgz; have h0 := congrArg List.length hgz; simp only [List.length_nil] at h0; omega) | (intros; exfalso; omega) | (intros; simp_all; done) | (intros; simp_all; omega)
set_option maxRecDepth 100000 in
set_option maxHeartbeats 16000000 in
theorem rvalid_2 (w : World) (p : Pd) (l : Lc) (v : Bool) (hp : PIn w p l) (hh : headB p = true) (hk : p.kind = 2) (hv : validP p = v) : Calls Try.prog 13 #[.agg (pcs p l)] w fun e w' => e = .returned (.bool v) ∧ Keep w.heap.size [] w w' := by
  have K1 : Hid (∀ cs t, Keep w.heap.size [] w (w.alloc (.cells cs t))) := Lib.hid (fun cs t => (Keep.refl _ _ w).alloc (Nat.le_refl _) _)
  have B1 : Hid (∀ cs t, Blk (w.alloc (.cells cs t)) w.heap.size t cs) := Lib.hid (fun cs t => Blk.new w _ _)
  have P1 : Hid (∀ cs t, PIn (w.alloc (.cells cs t)) p l) := Lib.hid (fun cs t => hp.keep0 ((Keep.refl _ _ w).alloc (Nat.le_refl _) _))
  have HO := Lib.hid hp.on
  have CG := Lib.hid hp.cg
  have HNL := Lib.hid hp.nl
  have HNN := Lib.hid (name_nil (L := p.name))
  have HDD : Hid (l.dn = p.data.length) := Lib.hid hp.dlen
  have HGG : Hid (l.gn = p.gaps.length) := Lib.hid hp.glen
  have hdl := hp.dl
  have hgl := hp.gl
  obtain ⟨kind, src, num, cls, name, size, off, data, sum, code, gaps⟩ := p
  have HH := Lib.hid hh
  unfold headB at hh
  simp only [Bool.and_eq_true, inB_iff] at hh
  obtain ⟨⟨a1, a2⟩, ⟨a3, a4⟩, a5, a6⟩ := hh
  simp only at hk a1 a2 a3 a4 a5 a6 HO HNL HNN HDD HGG
  have HV := Lib.hid hv
  clear hv hp
  subst hk
  have C1 : classedB 2 = false := by decide
  have C2 : codedB 2 = false := by decide
  unfold pcs
  simp only
  go_enter Try.func13, Try.ntmps13
  go_wp2_with fail
  iterate 8
    try all_goals
      try ((first
        | (refine (classed_b _ _ _ C1).mono ?_
           rintro e w' ⟨rfl, rfl⟩)
        | (refine (coded_b _ _ _ C2).mono ?_
           rintro e w' ⟨rfl, rfl⟩)
        | (refine (rnamed_b _ _ _ HO.out HNL.out rfl).mono ?_
           rintro e w' ⟨rfl, rfl⟩)
        | (refine (rgaps_b _ l.G l.gn l.gc gaps _ CG.out.1 CG.out.2 hgl (P1.out _ _).vg rfl).mono ?_
           rintro e w2 ⟨rfl, hk2⟩
           have K2 := Lib.hid ((K1.out _ _).chain0 (Nat.le_refl _) hk2)
           have b2 := (B1.out _ _).keepS hk2 (by simp)
           have q0 : w2.cell? ⟨w.heap.size, 0, none⟩ = some (.int .i64 2) := b2.cell 0
           have q6 : w2.cell? ⟨w.heap.size, 6, none⟩ = some (.int .i64 off) := b2.cell 6
           have q7 : w2.cell? ⟨w.heap.size, 7, none⟩ = some (.slice l.D l.dn l.dc) := b2.cell 7
           have qA : w2.cell? ⟨w.heap.size, 10, none⟩ = some (.slice l.G l.gn l.gc) := b2.cell 10
           clear b2)) <;> go_wp2_with fail)
  all_goals
    go_ret
  all_goals
    refine ⟨?_, by first | exact K1.out _ _ | exact K2.out⟩
    have hn := HNN.out
    have hd := HDD.out
    have hg := HGG.out
    rw [← HV.out]
    simp_all [validP, headB, restP, emptyB, bodyB, inB, strOfNums]
  all_goals first | done | exact len0 _ | (cases data <;> simp <;> omega) | (intros; intro hgz; have h0 := congrArg List.length hgz; simp only [List.length_nil] at h0; omega) | (intros; exfalso; omega) | (intros; simp_all; done) | (intros; simp_all; omega)
set_option maxRecDepth 100000 in
set_option maxHeartbeats 16000000 in
theorem rvalid_3 (w : World) (p : Pd) (l : Lc) (v : Bool) (hp : PIn w p l) (hh : headB p = true) (hk : p.kind = 3) (hv : validP p = v) : Calls Try.prog 13 #[.agg (pcs p l)] w fun e w' => e = .returned (.bool v) ∧ Keep w.heap.size [] w w' := by
  have K1 : Hid (∀ cs t, Keep w.heap.size [] w (w.alloc (.cells cs t))) := Lib.hid (fun cs t => (Keep.refl _ _ w).alloc (Nat.le_refl _) _)
  have B1 : Hid (∀ cs t, Blk (w.alloc (.cells cs t)) w.heap.size t cs) := Lib.hid (fun cs t => Blk.new w _ _)
  have P1 : Hid (∀ cs t, PIn (w.alloc (.cells cs t)) p l) := Lib.hid (fun cs t => hp.keep0 ((Keep.refl _ _ w).alloc (Nat.le_refl _) _))
  have HO := Lib.hid hp.on
  have CG := Lib.hid hp.cg
  have HNL := Lib.hid hp.nl
  have HNN := Lib.hid (name_nil (L := p.name))
  have HDD : Hid (l.dn = p.data.length) := Lib.hid hp.dlen
  have HGG : Hid (l.gn = p.gaps.length) := Lib.hid hp.glen
  have hdl := hp.dl
  have hgl := hp.gl
  obtain ⟨kind, src, num, cls, name, size, off, data, sum, code, gaps⟩ := p
  have HH := Lib.hid hh
  unfold headB at hh
  simp only [Bool.and_eq_true, inB_iff] at hh
  obtain ⟨⟨a1, a2⟩, ⟨a3, a4⟩, a5, a6⟩ := hh
  simp only at hk a1 a2 a3 a4 a5 a6 HO HNL HNN HDD HGG
  have HV := Lib.hid hv
  clear hv hp
  subst hk
  have C1 : classedB 3 = true := by decide
  have C2 : codedB 3 = true := by decide
  unfold pcs
  simp only
  go_enter Try.func13, Try.ntmps13
  go_wp2_with fail
  iterate 8
    try all_goals
      try ((first
        | (refine (classed_b _ _ _ C1).mono ?_
           rintro e w' ⟨rfl, rfl⟩)
        | (refine (coded_b _ _ _ C2).mono ?_
           rintro e w' ⟨rfl, rfl⟩)
        | (refine (rnamed_b _ _ _ HO.out HNL.out rfl).mono ?_
           rintro e w' ⟨rfl, rfl⟩)
        | (refine (rgaps_b _ l.G l.gn l.gc gaps _ CG.out.1 CG.out.2 hgl (P1.out _ _).vg rfl).mono ?_
           rintro e w2 ⟨rfl, hk2⟩
           have K2 := Lib.hid ((K1.out _ _).chain0 (Nat.le_refl _) hk2)
           have b2 := (B1.out _ _).keepS hk2 (by simp)
           have q0 : w2.cell? ⟨w.heap.size, 0, none⟩ = some (.int .i64 3) := b2.cell 0
           have q6 : w2.cell? ⟨w.heap.size, 6, none⟩ = some (.int .i64 off) := b2.cell 6
           have q7 : w2.cell? ⟨w.heap.size, 7, none⟩ = some (.slice l.D l.dn l.dc) := b2.cell 7
           have qA : w2.cell? ⟨w.heap.size, 10, none⟩ = some (.slice l.G l.gn l.gc) := b2.cell 10
           clear b2)) <;> go_wp2_with fail)
  all_goals
    go_ret
  all_goals
    refine ⟨?_, by first | exact K1.out _ _ | exact K2.out⟩
    have hn := HNN.out
    have hd := HDD.out
    have hg := HGG.out
    rw [← HV.out]
    simp_all [validP, headB, restP, emptyB, bodyB, inB, strOfNums]
  all_goals first | done | exact len0 _ | (cases data <;> simp <;> omega) | (intros; intro hgz; have h0 := congrArg List.length hgz; simp only [List.length_nil] at h0; omega) | (intros; exfalso; omega) | (intros; simp_all; done) | (intros; simp_all; omega)
set_option maxRecDepth 100000 in
set_option maxHeartbeats 16000000 in
theorem rvalid_4 (w : World) (p : Pd) (l : Lc) (v : Bool) (hp : PIn w p l) (hh : headB p = true) (hk : p.kind = 4) (hv : validP p = v) : Calls Try.prog 13 #[.agg (pcs p l)] w fun e w' => e = .returned (.bool v) ∧ Keep w.heap.size [] w w' := by
  have K1 : Hid (∀ cs t, Keep w.heap.size [] w (w.alloc (.cells cs t))) := Lib.hid (fun cs t => (Keep.refl _ _ w).alloc (Nat.le_refl _) _)
  have B1 : Hid (∀ cs t, Blk (w.alloc (.cells cs t)) w.heap.size t cs) := Lib.hid (fun cs t => Blk.new w _ _)
  have P1 : Hid (∀ cs t, PIn (w.alloc (.cells cs t)) p l) := Lib.hid (fun cs t => hp.keep0 ((Keep.refl _ _ w).alloc (Nat.le_refl _) _))
  have HO := Lib.hid hp.on
  have CG := Lib.hid hp.cg
  have HNL := Lib.hid hp.nl
  have HNN := Lib.hid (name_nil (L := p.name))
  have HDD : Hid (l.dn = p.data.length) := Lib.hid hp.dlen
  have HGG : Hid (l.gn = p.gaps.length) := Lib.hid hp.glen
  have hdl := hp.dl
  have hgl := hp.gl
  obtain ⟨kind, src, num, cls, name, size, off, data, sum, code, gaps⟩ := p
  have HH := Lib.hid hh
  unfold headB at hh
  simp only [Bool.and_eq_true, inB_iff] at hh
  obtain ⟨⟨a1, a2⟩, ⟨a3, a4⟩, a5, a6⟩ := hh
  simp only at hk a1 a2 a3 a4 a5 a6 HO HNL HNN HDD HGG
  have HV := Lib.hid hv
  clear hv hp
  subst hk
  have C1 : classedB 4 = false := by decide
  have C2 : codedB 4 = false := by decide
  unfold pcs
  simp only
  go_enter Try.func13, Try.ntmps13
  go_wp2_with fail
  iterate 8
    try all_goals
      try ((first
        | (refine (classed_b _ _ _ C1).mono ?_
           rintro e w' ⟨rfl, rfl⟩)
        | (refine (coded_b _ _ _ C2).mono ?_
           rintro e w' ⟨rfl, rfl⟩)
        | (refine (rnamed_b _ _ _ HO.out HNL.out rfl).mono ?_
           rintro e w' ⟨rfl, rfl⟩)
        | (refine (rgaps_b _ l.G l.gn l.gc gaps _ CG.out.1 CG.out.2 hgl (P1.out _ _).vg rfl).mono ?_
           rintro e w2 ⟨rfl, hk2⟩
           have K2 := Lib.hid ((K1.out _ _).chain0 (Nat.le_refl _) hk2)
           have b2 := (B1.out _ _).keepS hk2 (by simp)
           have q0 : w2.cell? ⟨w.heap.size, 0, none⟩ = some (.int .i64 4) := b2.cell 0
           have q6 : w2.cell? ⟨w.heap.size, 6, none⟩ = some (.int .i64 off) := b2.cell 6
           have q7 : w2.cell? ⟨w.heap.size, 7, none⟩ = some (.slice l.D l.dn l.dc) := b2.cell 7
           have qA : w2.cell? ⟨w.heap.size, 10, none⟩ = some (.slice l.G l.gn l.gc) := b2.cell 10
           clear b2)) <;> go_wp2_with fail)
  all_goals
    go_ret
  all_goals
    refine ⟨?_, by first | exact K1.out _ _ | exact K2.out⟩
    have hn := HNN.out
    have hd := HDD.out
    have hg := HGG.out
    rw [← HV.out]
    simp_all [validP, headB, restP, emptyB, bodyB, inB, strOfNums]
  all_goals first | done | exact len0 _ | (cases data <;> simp <;> omega) | (intros; intro hgz; have h0 := congrArg List.length hgz; simp only [List.length_nil] at h0; omega) | (intros; exfalso; omega) | (intros; simp_all; done) | (intros; simp_all; omega)
set_option maxRecDepth 100000 in
set_option maxHeartbeats 16000000 in
theorem rvalid_5 (w : World) (p : Pd) (l : Lc) (v : Bool) (hp : PIn w p l) (hh : headB p = true) (hk : p.kind = 5) (hv : validP p = v) : Calls Try.prog 13 #[.agg (pcs p l)] w fun e w' => e = .returned (.bool v) ∧ Keep w.heap.size [] w w' := by
  have K1 : Hid (∀ cs t, Keep w.heap.size [] w (w.alloc (.cells cs t))) := Lib.hid (fun cs t => (Keep.refl _ _ w).alloc (Nat.le_refl _) _)
  have B1 : Hid (∀ cs t, Blk (w.alloc (.cells cs t)) w.heap.size t cs) := Lib.hid (fun cs t => Blk.new w _ _)
  have P1 : Hid (∀ cs t, PIn (w.alloc (.cells cs t)) p l) := Lib.hid (fun cs t => hp.keep0 ((Keep.refl _ _ w).alloc (Nat.le_refl _) _))
  have HO := Lib.hid hp.on
  have CG := Lib.hid hp.cg
  have HNL := Lib.hid hp.nl
  have HNN := Lib.hid (name_nil (L := p.name))
  have HDD : Hid (l.dn = p.data.length) := Lib.hid hp.dlen
  have HGG : Hid (l.gn = p.gaps.length) := Lib.hid hp.glen
  have hdl := hp.dl
  have hgl := hp.gl
  obtain ⟨kind, src, num, cls, name, size, off, data, sum, code, gaps⟩ := p
  have HH := Lib.hid hh
  unfold headB at hh
  simp only [Bool.and_eq_true, inB_iff] at hh
  obtain ⟨⟨a1, a2⟩, ⟨a3, a4⟩, a5, a6⟩ := hh
  simp only at hk a1 a2 a3 a4 a5 a6 HO HNL HNN HDD HGG
  have HV := Lib.hid hv
  clear hv hp
  subst hk
  have C1 : classedB 5 = false := by decide
  have C2 : codedB 5 = true := by decide
  unfold pcs
  simp only
  go_enter Try.func13, Try.ntmps13
  go_wp2_with fail
  iterate 8
    try all_goals
      try ((first
        | (refine (classed_b _ _ _ C1).mono ?_
           rintro e w' ⟨rfl, rfl⟩)
        | (refine (coded_b _ _ _ C2).mono ?_
           rintro e w' ⟨rfl, rfl⟩)
        | (refine (rnamed_b _ _ _ HO.out HNL.out rfl).mono ?_
           rintro e w' ⟨rfl, rfl⟩)
        | (refine (rgaps_b _ l.G l.gn l.gc gaps _ CG.out.1 CG.out.2 hgl (P1.out _ _).vg rfl).mono ?_
           rintro e w2 ⟨rfl, hk2⟩
           have K2 := Lib.hid ((K1.out _ _).chain0 (Nat.le_refl _) hk2)
           have b2 := (B1.out _ _).keepS hk2 (by simp)
           have q0 : w2.cell? ⟨w.heap.size, 0, none⟩ = some (.int .i64 5) := b2.cell 0
           have q6 : w2.cell? ⟨w.heap.size, 6, none⟩ = some (.int .i64 off) := b2.cell 6
           have q7 : w2.cell? ⟨w.heap.size, 7, none⟩ = some (.slice l.D l.dn l.dc) := b2.cell 7
           have qA : w2.cell? ⟨w.heap.size, 10, none⟩ = some (.slice l.G l.gn l.gc) := b2.cell 10
           clear b2)) <;> go_wp2_with fail)
  all_goals
    go_ret
  all_goals
    refine ⟨?_, by first | exact K1.out _ _ | exact K2.out⟩
    have hn := HNN.out
    have hd := HDD.out
    have hg := HGG.out
    rw [← HV.out]
    simp_all [validP, headB, restP, emptyB, bodyB, inB, strOfNums]
  all_goals first | done | exact len0 _ | (cases data <;> simp <;> omega) | (intros; intro hgz; have h0 := congrArg List.length hgz; simp only [List.length_nil] at h0; omega) | (intros; exfalso; omega) | (intros; simp_all; done) | (intros; simp_all; omega)
end Go.Proofs.Ytijionfhnoffcaa
