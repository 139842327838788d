/- The ledger's play: what is known on the way. -/
import Derived.Test.YthpngafglljgnaaLImg
namespace Go.Proofs.Ythpngafglljgnaa
set_option linter.unusedVariables false
set_option linter.unusedSimpArgs false
open Go.RowKit
theorem step_store_mid {P : Program} {ops : Array Oper} {o : Oper} {a : Act} {w : World} {K : Act → World → Prop} {Q : Exit → Act → World → Prop} {E : Prop} (hgd : o.guard = none) (ty : TypeId) (x y : Operand) (ho : o.op = .store ty x y)
    (b i : Nat) (cells : Array Value) (hx : a.eval x = .pointer (some ⟨b, i, none⟩)) (hy : a.eval y = .agg cells)
    (ht : w.there b i cells.size) (hi : (P.info? ty).map (·.size) = some cells.size) (h1 : cells.all (·.oneCell') = true)
    (h : K (a.put o.dst undef) (w.setCells b i cells.toList)) : if Region.wanted o (yielded ops a.tmps) = true then Oper.wp P o a w K Q else E := by
  have hw : Region.wanted o (yielded ops a.tmps) = true := by simp [Region.wanted, hgd]
  rw [if_pos hw]
  exact wp_store_mid ty x y ho b i cells hx hy ht hi h1 h
abbrev TI : TypeId := 3
abbrev TR : TypeId := 40
abbrev TL : TypeId := 54
abbrev TA : TypeId := 29
theorem RV.keepB {w w' : World} {cs : Array Value} {M : List Mo} {g : Nat} {t : TypeId} {bs : Array Value} (h : RV w cs M) (hb : Blk w g t bs) (hne : TI ≠ t) (k : Keep w.heap.size [g] w w') : RV w' cs M :=
  ⟨h.sz, h.one, h.ml, fun i x hx => by
    obtain ⟨A, n, c, h1, h2, h3, h4, h5, h6⟩ := h.at_ i x hx
    have hg : ∀ y, y ∈ blks A → y ∉ [g] := fun y hy hm => h6.ne_blk hb hne (by simp at hm; subst hm; exact hy)
    exact ⟨A, n, c, h1, h2, h3.keepS k hg, h4, h5, h6.keepS k hg⟩⟩
theorem RV.len {w : World} {cs : Array Value} {M : List Mo} (h : RV w cs M) : cs.toList.length = 32 := by simpa using h.sz
structure PW (w W : World) (g3 gr gx : Nat) (l : List Value) (L : List Rc) (M : List Mo) : Prop where
  keep : Keep w.heap.size [] w W
  h3 : w.heap.size ≤ g3
  hr : w.heap.size ≤ gr
  hx : w.heap.size ≤ gx
  b3 : Blk W g3 TR zR.toArray
  br : Blk W gr TR l.toArray
  ne : g3 ≠ gr
  rv : RV W l.toArray M
  led : Led W gx L
theorem PW.other {w W W' : World} {g3 gr gx : Nat} {l : List Value} {L : List Rc} {M : List Mo} (h : PW w W g3 gr gx l L M) (k : Keep W.heap.size [] W W') : PW w W' g3 gr gx l L M :=
  ⟨h.keep.chain0 (Nat.le_refl _) k, h.h3, h.hr, h.hx, h.b3.keepS k (by simp), h.br.keepS k (by simp), h.ne, h.rv.keep0 k, h.led.keepS k (by simp)⟩
theorem PW.drew {w W : World} {g3 gr gx : Nat} {l : List Value} {L : List Rc} {M : List Mo} (h : PW w W g3 gr gx l L M) : PW w W.drew g3 gr gx l L M := h.other (Keep.refl _ _ _).drew
theorem PW.marked {w W W' : World} {g3 gr gx : Nat} {l : List Value} {L L' : List Rc} {M : List Mo} (h : PW w W g3 gr gx l L M) (hl : Led W' gx L') (k : Keep W.heap.size [gx] W W') : PW w W' g3 gr gx l L' M := by
  have e1 := h.b3.ne_ h.led.2.1 (by decide)
  have e2 := h.br.ne_ h.led.2.1 (by decide)
  exact ⟨h.keep.chain1 (Nat.le_refl _) k h.hx, h.h3, h.hr, h.hx, h.b3.keepS k (by simpa using e1), h.br.keepS k (by simpa using e2), h.ne, h.rv.keepB h.led.2.1 (by decide) k, hl⟩
theorem PW.swap {w W W' : World} {g3 gr gx g' : Nat} {l : List Value} {L L' : List Rc} {M : List Mo} (h : PW w W g3 gr gx l L M) (k : Keep W.heap.size [] W W') (hg : w.heap.size ≤ g') (hl : Led W' g' L') : PW w W' g3 gr g' l L' M :=
  ⟨h.keep.chain0 (Nat.le_refl _) k, h.h3, h.hr, hg, h.b3.keepS k (by simp), h.br.keepS k (by simp), h.ne, h.rv.keep0 k, hl⟩
/-- the reference's ledger is stored -/
theorem PW.stored {w W : World} {g3 gr gx : Nat} {l l' : List Value} {L : List Rc} {M M' : List Mo} (h : PW w W g3 gr gx l L M) (hr : RV W l'.toArray M') : PW w (W.setCells gr 0 l') g3 gr gx l' L M' := by
  have k : Keep W.heap.size [gr] W (W.setCells gr 0 l') := Keep.setCells (.inr (by simp)) l' 0 _ (Keep.refl _ _ _)
  have e2 := h.br.ne_ h.led.2.1 (by decide)
  have hs : l'.toArray.size = l.toArray.size := by rw [hr.sz, h.rv.sz]
  exact ⟨h.keep.chain1 (Nat.le_refl _) k h.hr, h.h3, h.hr, h.hx, h.b3.keepS k (by simpa using h.ne), h.br.setAll hs, h.ne, hr.keepB h.br (by decide) k, h.led.keepS k (by simpa using e2.symm)⟩
theorem PW.there {w W : World} {g3 gr gx : Nat} {l l' : List Value} {L : List Rc} {M M' : List Mo} (h : PW w W g3 gr gx l L M) (hr : RV W l'.toArray M') : W.there gr 0 l'.toArray.size := h.br.there 0 _ (by rw [hr.sz, h.rv.sz]; omega)
theorem rv_info {w : World} {l : List Value} {M : List Mo} (h : RV w l.toArray M) : (Try.prog.info? TR).map (·.size) = some l.length := by
  rw [infoRL]; have := h.len; simp at this; rw [this]
theorem rv_infoA {w : World} {l : List Value} {M : List Mo} (h : RV w l.toArray M) : (Try.prog.info? TR).map (·.size) = some l.toArray.size := by
  rw [infoRL, h.sz]
theorem zR_at : ∀ i, i < 16 → zR.toArray[i * 2]? = some (.int .i64 0) ∧ zR.toArray[i * 2 + 1]? = some (.slice none 0 0) := by
  intro i hi
  have h : i = 0 ∨ i = 1 ∨ i = 2 ∨ i = 3 ∨ i = 4 ∨ i = 5 ∨ i = 6 ∨ i = 7 ∨ i = 8 ∨ i = 9 ∨ i = 10 ∨ i = 11 ∨ i = 12 ∨ i = 13 ∨ i = 14 ∨ i = 15 := by omega
  rcases h with rfl | rfl | rfl | rfl | rfl | rfl | rfl | rfl | rfl | rfl | rfl | rfl | rfl | rfl | rfl | rfl <;> exact ⟨rfl, rfl⟩
theorem rv0 (w : World) : RV w zR.toArray (List.replicate 16 ⟨0, []⟩) := by
  refine ⟨by decide, by decide +kernel, by simp, fun i x hx => ?_⟩
  rw [List.getElem?_replicate] at hx
  split at hx
  · rename_i hi
    cases hx
    refine ⟨none, 0, 0, ?_, ?_, Vw.nil _ _, Nat.le_refl _, Nat.zero_le _, Sl.nil _ _ _⟩
    · exact (zR_at i hi).1
    · exact (zR_at i hi).2
  · cases hx
/-- an act's own copy -/
def ActB (W : World) (ga : Nat) (a : Ac) : Prop := Blk W ga TA #[.int .i64 a.k, .int .i64 a.s, .int .i64 a.n]
theorem ActB.other {W W' : World} {ga : Nat} {a : Ac} (h : ActB W ga a) (k : Keep W.heap.size [] W W') : ActB W' ga a := Blk.keepS h k (by simp)
theorem ActB.drew {W : World} {ga : Nat} {a : Ac} (h : ActB W ga a) : ActB W.drew ga a := h
theorem ActB.marked {W W' : World} {ga gx : Nat} {a : Ac} {L : List Rc} (h : ActB W ga a) (hl : Led W gx L) (k : Keep W.heap.size [gx] W W') : ActB W' ga a := Blk.keepS h k (by simpa using Blk.ne_ h hl.2.1 (by decide))
theorem ActB.stored {W : World} {ga gr : Nat} {a : Ac} {cs : Array Value} (h : ActB W ga a) (hb : Blk W gr TR cs) (l' : List Value) : ActB (W.setCells gr 0 l') ga a :=
  Blk.keepS h (Keep.setCells (.inr (by simp)) l' 0 _ (Keep.refl _ _ _) : Keep W.heap.size [gr] W _) (by simpa using Blk.ne_ h hb (by decide))
theorem ActB.cells {W : World} {ga : Nat} {a : Ac} (h : ActB W ga a) : W.cell? ⟨ga, 0, none⟩ = some (.int .i64 a.k) ∧ W.cell? ⟨ga, 1, none⟩ = some (.int .i64 a.s) ∧ W.cell? ⟨ga, 2, none⟩ = some (.int .i64 a.n) :=
  ⟨Blk.cell h 0, Blk.cell h 1, Blk.cell h 2⟩
/-- what a drawn region reads -/
def PS (ga gr : Nat) (a : Ac) (l : List Value) (W : World) : Prop := W.cell? ⟨ga, 1, none⟩ = some (.int .i64 a.s) ∧ W.cell? ⟨ga, 2, none⟩ = some (.int .i64 a.n) ∧ W.rangeAt gr 0 l
theorem PW.ps {w W : World} {g3 gr gx ga : Nat} {l : List Value} {L : List Rc} {M : List Mo} {a : Ac} (h : PW w W g3 gr gx l L M) (ha : ActB W ga a) : W.cell? ⟨ga, 1, none⟩ = some (.int .i64 a.s) ∧ W.cell? ⟨ga, 2, none⟩ = some (.int .i64 a.n) ∧ W.rangeAt gr 0 l :=
  ⟨ha.cells.2.1, ha.cells.2.2, h.br.range⟩
def ML (k : Nat) (M : List Mo) : Prop := ∀ x ∈ M, x.s.length ≤ k
theorem markM_len {M M' : List Mo} {k : Nat} {s n z : Int} (h : ML k M) (hm : markM M s n = (M', z)) : ML (k + 1) M' := by
  unfold markM at hm
  split at hm
  · split at hm
    · rename_i x hx
      split at hm
      · obtain ⟨rfl, rfl⟩ := Prod.mk.inj hm
        exact fun x hx => Nat.le_succ_of_le (h x hx)
      · obtain ⟨rfl, rfl⟩ := Prod.mk.inj hm
        intro y hy
        rcases List.mem_or_eq_of_mem_set hy with hy | rfl
        · exact Nat.le_succ_of_le (h y hy)
        · have := h x (List.mem_of_getElem? hx)
          simp [markMo]; omega
    · obtain ⟨rfl, rfl⟩ := Prod.mk.inj hm
      exact fun x hx => Nat.le_succ_of_le (h x hx)
  · obtain ⟨rfl, rfl⟩ := Prod.mk.inj hm
    exact fun x hx => Nat.le_succ_of_le (h x hx)
theorem RelL.mg {L : List Rc} {M : List Mo} {k : Nat} (h : RelL L M) (hl : ML k M) : MG k M := by
  intro x hx
  obtain ⟨i, hi, rfl⟩ := List.getElem_of_mem hx
  obtain ⟨r, x', h1, h2, hrel⟩ := h.at_ (i := i) (by have := h.m; omega)
  rw [List.getElem?_eq_getElem hi] at h2
  cases h2
  refine ⟨?_, hl _ hx, hrel.nd, hrel.rg⟩
  have := hrel.ok.1
  rw [hrel.n] at this
  exact this
theorem play_results (w : World) (tmps : Array Value) (g3 gx : Nat) (cs : Array Value) (b : Bool) (h2 : tmps.getD 2 undef = bptr gx) (h3 : tmps.getD 3 undef = bptr g3) (h4 : tmps.getD 4 undef = .bool b) (hb : Blk w g3 TR cs) (hs : cs.size = 32) :
    (results Try.f16 tmps).run Try.prog w = .ok (.tuple #[bptr gx, .agg cs, .bool b]) w := by
  have hl := run_loadVar_mid (P := Try.prog) w g3 0 TR cs.toList _ hb.range Try.underlying40 rfl (by rw [infoRL]; simp [hs])
  simp only [Array.getD_eq_getD_getElem?] at h2 h3 h4
  simp [results, Try.results16, h2, h3, h4, asAddr, hl]
def PlayPost (w : World) (e : Ending) (w' : World) : Prop := ∃ gx l L M, e = .returned (.tuple #[bptr gx, .agg l, .bool true]) ∧ w.heap.size ≤ gx ∧ Led w' gx L ∧ RV w' l M ∧ RelL L M ∧ ML 100 M ∧ Keep w.heap.size [] w w'
end Go.Proofs.Ythpngafglljgnaa
