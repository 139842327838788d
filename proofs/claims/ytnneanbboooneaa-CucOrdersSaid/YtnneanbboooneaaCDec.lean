/- What Decode answers, plainly; the worlds on its way. -/
import Derived.Test.YtnneanbboooneaaCWalkF
namespace Go.Proofs.Ytnneanbboooneaa
set_option linter.unusedVariables false
set_option linter.unusedSimpArgs false
open Go.RowKit
/-- what Decode answers: time, format, size, error -/
structure Dc where
  t : Int
  C : Int
  F : Int
  n : Int
  e : Int
def cOf (b : Int) : Nat := (b - 16).toNat / 4 + 1
def fOf (b : Int) : Nat := (b - 16).toNat % 4
/-- the octets of the fraction -/
def fineL (b : Int) (R : List Int) : List Int := (R.drop (cOf b)).take (fOf b)
def decT (b : Int) (R : List Int) : Int := beVal (R.take (cOf b)) * 256 + (fineL b R).headD 0
def decP : List Int → Dc
  | [] => ⟨0, 0, 0, 0, 3⟩
  | b :: R => if b < 16 ∨ 31 < b then ⟨0, 0, 0, 0, 4⟩ else if R.length < cOf b + fOf b then ⟨0, 0, 0, 0, 3⟩
    else if ∀ x ∈ (fineL b R).drop 1, x = 0 then ⟨decT b R, cOf b, fOf b, 1 + cOf b + fOf b, 0⟩ else ⟨0, 0, 0, 0, 4⟩
def DPost (w : World) (d : Dc) (e : Ending) (w' : World) : Prop :=
  e = .returned (.tuple #[.int .i64 d.t, fagg d.C d.F, .int .i64 d.n, .int .i64 d.e]) ∧ Keep w.heap.size [] w w'
theorem cOf_bd {b : Int} (h0 : 16 ≤ b) (h1 : b ≤ 31) : 1 ≤ cOf b ∧ cOf b ≤ 4 ∧ fOf b ≤ 3 := by unfold cOf fOf; omega
theorem okF_of {b : Int} (h0 : 16 ≤ b) (h1 : b ≤ 31) : okF (cOf b : Int) (fOf b : Int) = true := by
  rw [okF_iff]; have := cOf_bd h0 h1; omega
theorem sizeF_of {b : Int} (h0 : 16 ≤ b) (h1 : b ≤ 31) : sizeF (cOf b : Int) (fOf b : Int) = 1 + (cOf b : Int) + (fOf b : Int) := by
  unfold sizeF; rw [if_pos (okF_of h0 h1)]
/-- a world on the way of Decode: the result's block, the argument -/
structure DC (w W : World) (t : TypeId) (X : Option Addr) (m : Nat) (L : List Int) : Prop where
  keep : Keep w.heap.size [] w W
  res : Blk W w.heap.size t #[.int .i64 0, .int .i64 0]
  vw : Vw W X m 1 (octs L)
theorem DC.next {w W W' : World} {t : TypeId} {X : Option Addr} {m : Nat} {L : List Int} (h : DC w W t X m L) (hk : Keep W.heap.size [] W W') : DC w W' t X m L :=
  ⟨h.keep.chain0 (Nat.le_refl _) hk, h.res.keepS hk (by simp), h.vw.keep0 hk⟩
theorem DC.start {w : World} {t : TypeId} {X : Option Addr} {m : Nat} {L : List Int} (h : Vw w X m 1 (octs L)) : DC w (w.alloc (.cells #[.int .i64 0, .int .i64 0] t)) t X m L :=
  ⟨(Keep.refl _ _ w).alloc (Nat.le_refl _) _, Blk.new _ _ _, h.alloc _⟩
theorem DC.drewC {w W : World} {t : TypeId} {X : Option Addr} {m : Nat} {L : List Int} (h : DC w W t X m L) : DC w W.drew t X m L := ⟨h.keep.drew, h.res, h.vw⟩
theorem vw_head {W : World} {b o m : Nat} {x : Int} {R : List Int} (h : Vw W (some ⟨b, o, none⟩) m 1 (octs (x :: R))) : W.cell? ⟨b, o, none⟩ = some (.int .u8 x) := by
  have hl : m = R.length + 1 := by have := h.1; simp [octs] at this; omega
  obtain ⟨b', o', u, he, _, h2, h3⟩ := h.at_ (k := 0) (by omega)
  cases he
  simp [octs] at h2
  rw [← h2] at h3
  exact h3
theorem vw_nth {W : World} {b o m : Nat} {L : List Int} (h : Vw W (some ⟨b, o, none⟩) m 1 (octs L)) {k : Nat} {x : Int} (hx : L[k]? = some x) : W.cell? ⟨b, o + k, none⟩ = some (.int .u8 x) := by
  have hl : m = L.length := by have := h.1; simp [octs] at this; omega
  have hk := (List.getElem?_eq_some_iff.1 hx).1
  obtain ⟨b', o', u, he, _, h2, h3⟩ := h.at_ (k := k) (by omega)
  cases he
  simp [octs, hx] at h2
  rw [← h2] at h3
  exact h3
/-- .. and the block of the format -/
structure DV (w W : World) (t : TypeId) (X : Option Addr) (m : Nat) (L : List Int) (v : Nat) (C F : Int) : Prop where
  dc : DC w W t X m L
  loc : Blk W v t #[.int .i64 C, .int .i64 F]
  hv : w.heap.size < v
  hx : ∀ x, x ∈ blks X → 0 < m → x < w.heap.size
theorem DV.next {w W W' : World} {t : TypeId} {X : Option Addr} {m v : Nat} {L : List Int} {C F : Int} (h : DV w W t X m L v C F) (hk : Keep W.heap.size [] W W') : DV w W' t X m L v C F :=
  ⟨h.dc.next hk, h.loc.keepS hk (by simp), h.hv, h.hx⟩
theorem vw_lt {w : World} {X : Option Addr} {m : Nat} {L : List Value} (h : Vw w X m 1 L) : ∀ x, x ∈ blks X → 0 < m → x < w.heap.size := by
  intro x hx hm
  obtain ⟨b, o, rfl, hb, _⟩ := h.2 hm
  simp [blks] at hx
  omega
theorem DC.local {w W : World} {t : TypeId} {X : Option Addr} {m : Nat} {L : List Int} (h : DC w W t X m L) (hx : ∀ x, x ∈ blks X → 0 < m → x < w.heap.size) : DV w (W.alloc (.cells #[.int .i64 0, .int .i64 0] t)) t X m L W.heap.size 0 0 :=
  ⟨h.next ((Keep.refl _ _ W).alloc (Nat.le_refl _) _), Blk.new _ _ _, h.res.lt, hx⟩
theorem DC.localC {w W : World} {t : TypeId} {X : Option Addr} {m : Nat} {L : List Int} (h : DC w W t X m L) (hx : ∀ x, x ∈ blks X → 0 < m → x < w.heap.size) (C F : Int) : DV w (W.alloc (.cells #[.int .i64 C, .int .i64 F] t)) t X m L W.heap.size C F :=
  ⟨h.next ((Keep.refl _ _ W).alloc (Nat.le_refl _) _), Blk.new _ _ _, h.res.lt, hx⟩
theorem DC.localAt {w W : World} {t : TypeId} {X : Option Addr} {m : Nat} {L : List Int} (h : DC w W t X m L) (hx : ∀ x, x ∈ blks X → 0 < m → x < w.heap.size) (v : Nat) (hv : W.heap.size = v) : DV w (W.alloc (.cells #[.int .i64 0, .int .i64 0] t)) t X m L v 0 0 := by
  subst hv; exact h.local hx
theorem DV.set {w W : World} {t : TypeId} {X : Option Addr} {m v : Nat} {L : List Int} {C F : Int} (h : DV w W t X m L v C F) (C' F' : Int) :
    DV w ((W.setCell ⟨v, 0, none⟩ (.int .i64 C')).setCell ⟨v, 1, none⟩ (.int .i64 F')) t X m L v C' F' := by
  have hv := h.hv
  have hk : Keep w.heap.size [] w ((W.setCell ⟨v, 0, none⟩ (.int .i64 C')).setCell ⟨v, 1, none⟩ (.int .i64 F')) := (h.dc.keep.setN (Nat.le_of_lt hv)).setN (Nat.le_of_lt hv)
  refine ⟨⟨hk, (h.dc.res.far (p := ⟨v, 0, none⟩) (by simp only; omega) _).far (p := ⟨v, 1, none⟩) (by simp only; omega) _, ?_⟩, (h.loc.set_ 0 _).set_ 1 _, hv, h.hx⟩
  have hk2 : Keep W.heap.size [v] W ((W.setCell ⟨v, 0, none⟩ (.int .i64 C')).setCell ⟨v, 1, none⟩ (.int .i64 F')) := (Keep.refl _ _ W).set1.set1
  exact h.dc.vw.keepP hk2 (fun hm g hg => by have := h.hx g hg hm; simp; omega)
theorem DV.nextG {w W W' : World} {t : TypeId} {X : Option Addr} {m v g : Nat} {L : List Int} {C F : Int} (h : DV w W t X m L v C F) (hk : Keep W.heap.size [g] W W') (hg : v < g) : DV w W' t X m L v C F := by
  have hv := h.hv
  exact ⟨⟨h.dc.keep.chain1 (Nat.le_refl _) hk (by omega), h.dc.res.keepS hk (by simp; omega), h.dc.vw.keepP hk (fun hm x hx => by have := h.hx x hx hm; simp; omega)⟩, h.loc.keepS hk (by simp; omega), hv, h.hx⟩
/-- .. and a reader -/
structure DG (w W : World) (t : TypeId) (X : Option Addr) (m : Nat) (L : List Int) (v : Nat) (C F : Int) (g : Nat) (X' : Option Addr) (L' : List Int) : Prop where
  dv : DV w W t X m L v C F
  rd : Rd W g X' L'
  hg : v < g
theorem DG.next {w W W' : World} {t : TypeId} {X : Option Addr} {m v : Nat} {L : List Int} {C F : Int} {g : Nat} {X' X2 : Option Addr} {L' L2 : List Int} (h : DG w W t X m L v C F g X' L') (hr : Rd W' g X2 L2) (hk : Keep W.heap.size [g] W W') : DG w W' t X m L v C F g X2 L2 :=
  ⟨h.dv.nextG hk h.hg, hr, h.hg⟩
theorem DV.drewV {w W : World} {t : TypeId} {X : Option Addr} {m v : Nat} {L : List Int} {C F : Int} (h : DV w W t X m L v C F) : DV w W.drew t X m L v C F := ⟨h.dc.drewC, h.loc, h.hv, h.hx⟩
theorem beVal_next {R : List Int} {k : Nat} {y : Int} (h : R[k]? = some y) : beVal (R.take (k + 1)) = beVal (R.take k) * 256 + y := by
  rw [List.take_add_one, h]
  exact beVal_snoc _ _
theorem take1 {L : List Int} {k : Nat} {y : Int} (h : L[k]? = some y) : (L.drop k).take 1 = [y] := by
  have hk := List.getElem?_eq_some_iff.1 h
  obtain ⟨h1, h2⟩ := hk
  rw [List.drop_eq_getElem_cons h1]
  simp [h2]
theorem beVal1 (y : Int) : beVal [y] = y := by simp [beVal]
theorem oct_drop {L : List Int} (h : Oct L) (k : Nat) : Oct (L.drop k) := fun x hx => h x (List.mem_of_mem_drop hx)
theorem oct_take {L : List Int} (h : Oct L) (k : Nat) : Oct (L.take k) := fun x hx => h x (List.mem_of_mem_take hx)
theorem decP_short {x : Int} {R : List Int} (h0 : 16 ≤ x) (h1 : x ≤ 31) (h : R.length < cOf x + fOf x) : decP (x :: R) = ⟨0, 0, 0, 0, 3⟩ := by
  show (if _ then _ else if _ then _ else if _ then _ else _) = _
  rw [if_neg (by omega), if_pos h]
theorem decP_fine {x : Int} {R : List Int} (h0 : 16 ≤ x) (h1 : x ≤ 31) (h : ¬ R.length < cOf x + fOf x) (hz : ∀ z ∈ (fineL x R).drop 1, z = 0) : decP (x :: R) = ⟨decT x R, cOf x, fOf x, 1 + cOf x + fOf x, 0⟩ := by
  show (if _ then _ else if _ then _ else if _ then _ else _) = _
  rw [if_neg (by omega), if_neg h, if_pos hz]
theorem decP_form {x : Int} {R : List Int} (h0 : 16 ≤ x) (h1 : x ≤ 31) (h : ¬ R.length < cOf x + fOf x) (hz : ¬ ∀ z ∈ (fineL x R).drop 1, z = 0) : decP (x :: R) = ⟨0, 0, 0, 0, 4⟩ := by
  show (if _ then _ else if _ then _ else if _ then _ else _) = _
  rw [if_neg (by omega), if_neg h, if_neg hz]
theorem headD_some {L : List Int} {y : Int} (h : L[0]? = some y) : L.headD 0 = y := by
  cases L with
  | nil => simp at h
  | cons a t => simp at h; simpa using h
theorem mem_drop1 {L : List Int} {k : Nat} {y : Int} (h : L[k]? = some y) (hk : 1 ≤ k) : y ∈ L.drop 1 := by
  refine List.mem_iff_getElem?.2 ⟨k - 1, ?_⟩
  rw [List.getElem?_drop, ← h]
  congr 1
  omega
theorem take_next {L : List Int} {k : Nat} {y : Int} (h : L[k]? = some y) (hk : 1 ≤ k) (hy : y = 0) (ha : ∀ z ∈ (L.take k).drop 1, z = 0) : ∀ z ∈ (L.take (k + 1)).drop 1, z = 0 := by
  intro z hz
  have hl := (List.getElem?_eq_some_iff.1 h).1
  have e : L.take (k + 1) = L.take k ++ [y] := by
    rw [List.take_add_one, h]; rfl
  rw [e, List.drop_append] at hz
  rcases List.mem_append.1 hz with h1 | h1
  · exact ha z h1
  · have := List.mem_of_mem_drop h1
    simp at this
    rw [this, hy]
theorem take_one_drop (L : List Int) : ∀ z ∈ (L.take 1).drop 1, z = 0 := by
  intro z hz
  cases L <;> simp at hz
end Go.Proofs.Ytnneanbboooneaa
