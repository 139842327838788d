/- load: samples are added one after the other, here and in the reference. -/
import Derived.Test.YtdckpamempejgaaTLawC
namespace Go.Proofs.Ytdckpamempejgaa
set_option linter.unusedVariables false
set_option linter.unusedSimpArgs false
open Go.RowKit
/-- two numbers at a place -/
def At2 (w : World) (b o : Nat) (u : Int × Int) : Prop := w.cell? ⟨b, o, none⟩ = some (.int .i64 u.1) ∧ w.cell? ⟨b, o + 1, none⟩ = some (.int .i64 u.2)
/-- a slice of pairs -/
def Rows2 (w : World) (X : Option Addr) (n : Nat) (l : List (Int × Int)) : Prop :=
  l.length = n ∧ (0 < n → ∃ b o, X = some ⟨b, o, none⟩ ∧ b < w.heap.size ∧ ∀ (j : Nat) (u : Int × Int), l[j]? = some u → At2 w b (o + j * 2) u)
theorem Rows2.keep0 {w w' : World} {X : Option Addr} {n : Nat} {l : List (Int × Int)} (h : Rows2 w X n l) (k : Keep w.heap.size [] w w') : Rows2 w' X n l := by
  refine ⟨h.1, fun hn => ?_⟩
  obtain ⟨b, o, rfl, hlt, hc⟩ := h.2 hn
  refine ⟨b, o, rfl, Nat.lt_of_lt_of_le hlt k.size, fun j u hu => ?_⟩
  have := hc j u hu
  exact ⟨(k.cell (p := ⟨b, o + j * 2, none⟩) hlt (by simp)).trans this.1, (k.cell (p := ⟨b, o + j * 2 + 1, none⟩) hlt (by simp)).trans this.2⟩
theorem Rows2.at_ {w : World} {X : Option Addr} {n : Nat} {l : List (Int × Int)} (h : Rows2 w X n l) {k : Nat} (hk : k < n) : ∃ b o a c, X = some ⟨b, o, none⟩ ∧ w.cell? ⟨b, o + k * 2, none⟩ = some (.int .i64 a) ∧ w.cell? ⟨b, o + k * 2 + 1, none⟩ = some (.int .i64 c) ∧ l[k]? = some (a, c) := by
  obtain ⟨b, o, rfl, hlt, hc⟩ := h.2 (by omega)
  have hl : k < l.length := by have := h.1; omega
  have h2 := hc k l[k] (List.getElem?_eq_getElem hl)
  exact ⟨b, o, l[k].1, l[k].2, rfl, h2.1, h2.2, List.getElem?_eq_getElem hl⟩
abbrev RB (W : World) (v : Nat) (f : Ft) : Prop := Blk W v 26 (rcells f)
/-- a world on the way of load: the result's block, the correlation g, the reference's p, the samples -/
structure LW (w W : World) (g p : Nat) (f f2 : Ft) (X : Option Addr) (n : Nat) (l : List (Int × Int)) : Prop where
  fw : FW w W g f
  res : RB W w.heap.size f0
  ref : RB W p f2
  hg : w.heap.size < g
  hp : g < p
  rows : Rows2 w X n l
theorem LW.next {w W W' : World} {g p : Nat} {f f2 : Ft} {X : Option Addr} {n : Nat} {l : List (Int × Int)} (h : LW w W g p f f2 X n l) (hk : Keep W.heap.size [] W W') : LW w W' g p f f2 X n l :=
  ⟨h.fw.next hk, h.res.keepS hk (by simp), h.ref.keepS hk (by simp), h.hg, h.hp, h.rows⟩
theorem LW.drew {w W : World} {g p : Nat} {f f2 : Ft} {X : Option Addr} {n : Nat} {l : List (Int × Int)} (h : LW w W g p f f2 X n l) : LW w W.drew g p f f2 X n l :=
  ⟨⟨h.fw.keep.drew, h.fw.blk, h.fw.hg, h.fw.ok⟩, h.res, h.ref, h.hg, h.hp, h.rows⟩
theorem LW.add {w W W' : World} {g p : Nat} {f f' f2 : Ft} {X : Option Addr} {n : Nat} {l : List (Int × Int)} {a b z : Int} (h : LW w W g p f f2 X n l) (hn : f.n < 1000000) (ha : addP f a b = (f', z)) (hb : Blk W' g 51 (fcells f')) (hk : Keep W.heap.size [g] W W') : LW w W' g p f' f2 X n l := by
  have h1 := h.hg
  have h2 := h.hp
  exact ⟨h.fw.add hn ha hb hk, h.res.keepS hk (by simp; omega), h.ref.keepS hk (by simp; omega), h.hg, h.hp, h.rows⟩
theorem LW.cells {w W : World} {g p : Nat} {f f2 : Ft} {X : Option Addr} {n : Nat} {l : List (Int × Int)} (h : LW w W g p f f2 X n l) : Rows2 W X n l := h.rows.keep0 h.fw.keep
/-- .. and the answer's block -/
structure LS (w W : World) (g p s : Nat) (f f2 f3 : Ft) (X : Option Addr) (n : Nat) (l : List (Int × Int)) : Prop where
  lw : LW w W g p f f2 X n l
  ans : RB W s f3
  hs : p < s
theorem LS.next {w W W' : World} {g p s : Nat} {f f2 f3 : Ft} {X : Option Addr} {n : Nat} {l : List (Int × Int)} (h : LS w W g p s f f2 f3 X n l) (hk : Keep W.heap.size [] W W') : LS w W' g p s f f2 f3 X n l :=
  ⟨h.lw.next hk, h.ans.keepS hk (by simp), h.hs⟩
theorem LW.alloc {w W : World} {g p : Nat} {f f2 : Ft} {X : Option Addr} {n : Nat} {l : List (Int × Int)} (h : LW w W g p f f2 X n l) (f3 : Ft) (s : Nat) (hs : W.heap.size = s) :
    LS w (W.alloc (.cells (rcells f3) 26)) g p s f f2 f3 X n l := by
  subst hs
  exact ⟨h.next ((Keep.refl _ _ W).alloc (Nat.le_refl _) _), Blk.new _ _ _, h.ref.lt⟩
theorem LW.at2 {w W : World} {g p b o k : Nat} {f f2 : Ft} {n : Nat} {l : List (Int × Int)} {x y : Int} (h : LW w W g p f f2 (some ⟨b, o, none⟩) n l) (hl : l[k]? = some (x, y)) : W.cell? ⟨b, o + k * 2, none⟩ = some (.int .i64 x) ∧ W.cell? ⟨b, o + k * 2 + 1, none⟩ = some (.int .i64 y) := by
  have hc := h.cells
  have hk := (List.getElem?_eq_some_iff.1 hl).1
  obtain ⟨b', o', he, _, h2⟩ := hc.2 (by have := hc.1; omega)
  cases he
  exact h2 k (x, y) hl
theorem LW.s {w W : World} {g p b o k : Nat} {f f2 : Ft} {n : Nat} {l : List (Int × Int)} {x y : Int} (h : LW w W g p f f2 (some ⟨b, o, none⟩) n l) (hl : l[k]? = some (x, y)) :
    W.cell? ⟨p, 0, none⟩ = some (.int .i64 f2.n) ∧ W.cell? ⟨p, 1, none⟩ = some (.int .i64 f2.g0) ∧ W.cell? ⟨p, 2, none⟩ = some (.int .i64 f2.b0) ∧ W.cell? ⟨p, 3, none⟩ = some (.int .i64 f2.g1) ∧ W.cell? ⟨p, 4, none⟩ = some (.int .i64 f2.b1) ∧ W.cell? ⟨b, o + k * 2, none⟩ = some (.int .i64 x) ∧ W.cell? ⟨b, o + k * 2 + 1, none⟩ = some (.int .i64 y) :=
  ⟨h.ref.cell 0, h.ref.cell 1, h.ref.cell 2, h.ref.cell 3, h.ref.cell 4, h.at2 hl⟩
/-- five cells stored -/
abbrev set5 (W : World) (v : Nat) (f : Ft) : World := ((((W.setCell ⟨v, 0, none⟩ (.int .i64 f.n)).setCell ⟨v, 1, none⟩ (.int .i64 f.g0)).setCell ⟨v, 2, none⟩ (.int .i64 f.b0)).setCell ⟨v, 3, none⟩ (.int .i64 f.g1)).setCell ⟨v, 4, none⟩ (.int .i64 f.b1)
theorem set5_keep (W : World) (v : Nat) (f : Ft) : Keep W.heap.size [v] W (set5 W v f) := (((((Keep.refl _ _ W).set1).set1).set1).set1).set1
theorem set5_blk {W : World} {v : Nat} {t : TypeId} {h : Ft} (hb : Blk W v t (rcells h)) (f : Ft) : Blk (set5 W v f) v t (rcells f) := ((((hb.set_ 0 _).set_ 1 _).set_ 2 _).set_ 3 _).set_ 4 _
theorem LS.setAns {w W : World} {g p s : Nat} {f f2 f3 : Ft} {X : Option Addr} {n : Nat} {l : List (Int × Int)} (h : LS w W g p s f f2 f3 X n l) (f4 : Ft) : LS w (set5 W s f4) g p s f f2 f4 X n l := by
  have h1 := h.lw.hg
  have h2 := h.lw.hp
  have h3 := h.hs
  have hk := set5_keep W s f4
  have hks : w.heap.size ≤ s := by omega
  exact ⟨⟨⟨h.lw.fw.keep.chain1 (Nat.le_refl _) hk hks, h.lw.fw.blk.keepS hk (by simp; omega), h.lw.fw.hg, h.lw.fw.ok⟩, h.lw.res.keepS hk (by simp; omega), h.lw.ref.keepS hk (by simp; omega), h1, h2, h.lw.rows⟩, set5_blk h.ans f4, h3⟩
theorem LS.setRef {w W : World} {g p s : Nat} {f f2 f3 : Ft} {X : Option Addr} {n : Nat} {l : List (Int × Int)} (h : LS w W g p s f f2 f3 X n l) (f4 : Ft) : LW w (set5 W p f4) g p f f4 X n l := by
  have h1 := h.lw.hg
  have h2 := h.lw.hp
  have h3 := h.hs
  have hk := set5_keep W p f4
  have hkp : w.heap.size ≤ p := by omega
  exact ⟨⟨h.lw.fw.keep.chain1 (Nat.le_refl _) hk hkp, h.lw.fw.blk.keepS hk (by simp; omega), h.lw.fw.hg, h.lw.fw.ok⟩, h.lw.res.keepS hk (by simp; omega), set5_blk h.lw.ref f4, h1, h2, h.lw.rows⟩
theorem LW.setRes {w W : World} {g p : Nat} {f f2 : Ft} {X : Option Addr} {n : Nat} {l : List (Int × Int)} (h : LW w W g p f f2 X n l) : FW w (set5 W w.heap.size f2).drew g f ∧ Rows2 (set5 W w.heap.size f2).drew X n l := by
  have h1 := h.hg
  have hk := set5_keep W w.heap.size f2
  have k2 := (h.fw.keep.chain1 (Nat.le_refl _) hk (Nat.le_refl _)).drew
  exact ⟨⟨k2, (h.fw.blk.keepS hk (by simp; omega)).drew, h.fw.hg, h.fw.ok⟩, h.rows.keep0 k2⟩
def LoadPost (w : World) (X : Option Addr) (n : Nat) (l : List (Int × Int)) (e : Ending) (w' : World) : Prop :=
  ∃ g f, e = .returned (.tuple #[pf g, ragg f, .bool true]) ∧ FW w w' g f ∧ f.n ≤ n ∧ Rows2 w' X n l
theorem res5 {W : World} {v : Nat} {f : Ft} (h : RB W v f) : W.cell? ⟨v, 0, none⟩ = some (.int .i64 f.n) ∧ W.cell? ⟨v, 1, none⟩ = some (.int .i64 f.g0) ∧ W.cell? ⟨v, 2, none⟩ = some (.int .i64 f.b0) ∧ W.cell? ⟨v, 3, none⟩ = some (.int .i64 f.g1) ∧ W.cell? ⟨v, 4, none⟩ = some (.int .i64 f.b1) := rcell5 h
theorem fro5 {W : World} {v : Nat} {f : Ft} (h : RB W v f) : W.frozen? ⟨v, 0, none⟩ = false ∧ W.frozen? ⟨v, 1, none⟩ = false ∧ W.frozen? ⟨v, 2, none⟩ = false ∧ W.frozen? ⟨v, 3, none⟩ = false ∧ W.frozen? ⟨v, 4, none⟩ = false := ⟨h.frozen 0, h.frozen 1, h.frozen 2, h.frozen 3, h.frozen 4⟩
set_option maxHeartbeats 8000000 in
theorem load_any (w : World) (X : Option Addr) (n c : Nat) (l : List (Int × Int)) (hnc : n ≤ c) (hn : n ≤ 100) (hv : Rows2 w X n l) : Calls Try.prog 9 #[.slice X n c] w (LoadPost w X n l) := by
  have HV := Lib.hid hv
  have hn' : (n : Int) ≤ 100 := by omega
  have hnc' : (n : Int) ≤ (c : Int) := by omega
  clear hv
  go_enter Try.func9, Try.ntmps9
  go_wp2_with fail
  refine (new_any _).mono ?_
  rintro e w1 ⟨rfl, hb, hk⟩
  obtain ⟨g, hg⟩ : ∃ g, w.heap.size + 1 = g := ⟨_, rfl⟩
  have L1 : Hid (LW w (w1.alloc (.cells #[.int .i64 0, .int .i64 0, .int .i64 0, .int .i64 0, .int .i64 0] 26)) g w1.heap.size f0 f0 X n l) := Lib.hid (by
    have k0 := (Keep.refl w.heap.size [] w).alloc (Nat.le_refl _) (.cells #[.int .i64 0, .int .i64 0, .int .i64 0, .int .i64 0, .int .i64 0] 26)
    have k1 := k0.chain0 (Nat.le_refl _) hk
    have e1 : (w.alloc (.cells #[.int .i64 0, .int .i64 0, .int .i64 0, .int .i64 0, .int .i64 0] 26)).heap.size = g := by rw [← hg]; simp
    have hb' := hb
    rw [e1] at hb'
    have hlt := hb'.lt
    exact ⟨⟨k1.alloc k1.size _, hb'.alloc _, by omega, f0_ok⟩, ((Blk.new w _ _).keepS hk (by simp)).alloc _, Blk.new _ _ _, by omega, hlt, HV.out⟩)
  have HG : Hid ((w.alloc (.cells #[.int .i64 0, .int .i64 0, .int .i64 0, .int .i64 0, .int .i64 0] 26)).heap.size = g) := Lib.hid (by rw [← hg]; simp)
  clear hb hk
  rw [HG.out]
  clear hg
  go_wp2_with fail
  obtain ⟨p, hp⟩ : ∃ p, w1.heap.size = p := ⟨_, rfl⟩
  rw [hp] at L1 ⊢
  clear hp
  go_loopw [7] (fun i wr => ∃ (k : Nat) (f : Ft), k ≤ n ∧ i = .int .i64 k ∧ f.n ≤ k ∧ LW w wr g p f f X n l) (fun i _ => n - (intOf i).toNat)
  case atStart => exact ⟨0, f0, Nat.zero_le _, rfl, Int.le_refl _, L1.out⟩
  case round =>
    obtain ⟨k, f, hkn, rfl, hfn, hlw⟩ := hrel
    have L := Lib.hid hlw
    clear hlw
    by_cases hlt : k < n
    · have hkx : (k : Int) < (n : Int) := by omega
      obtain ⟨b, o, x, y, rfl, c1, c2, hl⟩ := L.out.cells.at_ hlt
      have HLK := Lib.hid hl
      clear hl
      obtain ⟨f', z, ha⟩ : ∃ f' z, addP f x y = (f', z) := ⟨_, _, rfl⟩
      have HA := Lib.hid ha
      have hf0 := L.out.fw.ok.n0
      have hf1 : f.n < 1000000 := by omega
      have hfn' : f'.n ≤ (k : Int) + 1 := by have := (add_ok (a := x) (b := y) L.out.fw.ok hf1).2; rw [ha] at this; simp only at this; omega
      have s0 := And.intro c1 c2
      clear ha
      go_wp2_with fail
      go_region_held3 (fun w' => w'.cell? ⟨b, o + k * 2, none⟩ = some (.int .i64 x) ∧ w'.cell? ⟨b, o + k * 2 + 1, none⟩ = some (.int .i64 y))
        (first | exact s0 | exact s1)
        (first
          | (go_at_call 13
             refine (add_any _ g f f' x y z HA.out L.out.drew.fw.blk L.out.fw.ok hf1).mono ?_
             rintro e w2 ⟨rfl, hb, hk⟩
             have L2 := Lib.hid (L.out.drew.add hf1 HA.out hb hk)
             have s1 := L2.out.at2 HLK.out
             clear hb hk))
      clear c1 c2 s0
      have s2 := L2.out.drew.s HLK.out
      go_wp2_with fail
      refine wp_region_held_drew (S := (fun w' => w'.cell? ⟨p, 0, none⟩ = some (.int .i64 f.n) ∧ w'.cell? ⟨p, 1, none⟩ = some (.int .i64 f.g0) ∧ w'.cell? ⟨p, 2, none⟩ = some (.int .i64 f.b0) ∧ w'.cell? ⟨p, 3, none⟩ = some (.int .i64 f.g1) ∧ w'.cell? ⟨p, 4, none⟩ = some (.int .i64 f.b1) ∧ w'.cell? ⟨b, o + k * 2, none⟩ = some (.int .i64 x) ∧ w'.cell? ⟨b, o + k * 2 + 1, none⟩ = some (.int .i64 y))) (by kernel_rfl) (by exact s2) (fun hHeld => ?_)
      refine wpAnyH_take (i := 0) (oi := { dst := some 32, op := Op.load 26 (Operand.tmp 6), type := 26, pos := _, after := #[], guard := none }) (v := _) rfl (by kernel_rfl) (by kernel_rfl) (by kernel_rfl) (fun _ _ _ h => h) (Or.inl ⟨by rfl, by (intro wS hSw; (try dsimp only at hSw); go_simp; try with_reducible rfl)⟩) (by assumption) ?_
      (try simp only [Act.put, List.setIfInBounds_toArray, List.set_cons_zero, List.set_cons_succ])
      refine wpAnyH_take (i := 1) (oi := { dst := some 33, op := Op.move (Operand.tmp 0), type := 22, pos := _, after := #[], guard := none }) (v := _) rfl (by kernel_rfl) (by kernel_rfl) (by kernel_rfl) (fun _ _ _ h => h) (Or.inl ⟨by rfl, by (intro wS hSw; (try dsimp only at hSw); go_simp; try with_reducible rfl)⟩) (by assumption) ?_
      (try simp only [Act.put, List.setIfInBounds_toArray, List.set_cons_zero, List.set_cons_succ])
      refine wpAnyH_take (i := 2) (oi := { dst := some 34, op := Op.move (Operand.tmp 7), type := 3, pos := _, after := #[], guard := none }) (v := _) rfl (by kernel_rfl) (by kernel_rfl) (by kernel_rfl) (fun _ _ _ h => h) (Or.inl ⟨by rfl, by (intro wS hSw; (try dsimp only at hSw); go_simp; try with_reducible rfl)⟩) (by assumption) ?_
      (try simp only [Act.put, List.setIfInBounds_toArray, List.set_cons_zero, List.set_cons_succ])
      refine wpAnyH_take (i := 3) (oi := { dst := some 35, op := Op.indexAddr 22 (Operand.tmp 33) (Operand.tmp 34), type := 0, pos := _, after := #[{ on := 1, ground := Ground.data }, { on := 2, ground := Ground.data }], guard := none }) (v := _) rfl (by kernel_rfl) (by kernel_rfl) (by kernel_rfl) (fun _ _ _ h => h) (Or.inl ⟨by rfl, by (intro wS hSw; (try dsimp only at hSw); go_simp; try with_reducible rfl)⟩) (by assumption) ?_
      (try simp only [Act.put, List.setIfInBounds_toArray, List.set_cons_zero, List.set_cons_succ])
      refine wpAnyH_take (i := 4) (oi := { dst := some 36, op := Op.indexAddr 34 (Operand.tmp 35) (Operand.const (Value.int IntKind.i64 0)), type := 0, pos := _, after := #[{ on := 3, ground := Ground.data }], guard := none }) (v := _) rfl (by kernel_rfl) (by kernel_rfl) (by kernel_rfl) (fun _ _ _ h => h) (Or.inl ⟨by rfl, by (intro wS hSw; (try dsimp only at hSw); go_simp; try with_reducible rfl)⟩) (by assumption) ?_
      (try simp only [Act.put, List.setIfInBounds_toArray, List.set_cons_zero, List.set_cons_succ])
      refine wpAnyH_take (i := 5) (oi := { dst := some 37, op := Op.load 3 (Operand.tmp 36), type := 3, pos := _, after := #[{ on := 4, ground := Ground.data }], guard := none }) (v := _) rfl (by kernel_rfl) (by kernel_rfl) (by kernel_rfl) (fun _ _ _ h => h) (Or.inl ⟨by rfl, by (intro wS hSw; (try dsimp only at hSw); go_simp; try with_reducible rfl)⟩) (by assumption) ?_
      (try simp only [Act.put, List.setIfInBounds_toArray, List.set_cons_zero, List.set_cons_succ])
      refine wpAnyH_take (i := 6) (oi := { dst := some 38, op := Op.move (Operand.tmp 0), type := 22, pos := _, after := #[], guard := none }) (v := _) rfl (by kernel_rfl) (by kernel_rfl) (by kernel_rfl) (fun _ _ _ h => h) (Or.inl ⟨by rfl, by (intro wS hSw; (try dsimp only at hSw); go_simp; try with_reducible rfl)⟩) (by assumption) ?_
      (try simp only [Act.put, List.setIfInBounds_toArray, List.set_cons_zero, List.set_cons_succ])
      refine wpAnyH_take (i := 7) (oi := { dst := some 39, op := Op.move (Operand.tmp 7), type := 3, pos := _, after := #[], guard := none }) (v := _) rfl (by kernel_rfl) (by kernel_rfl) (by kernel_rfl) (fun _ _ _ h => h) (Or.inl ⟨by rfl, by (intro wS hSw; (try dsimp only at hSw); go_simp; try with_reducible rfl)⟩) (by assumption) ?_
      (try simp only [Act.put, List.setIfInBounds_toArray, List.set_cons_zero, List.set_cons_succ])
      refine wpAnyH_take (i := 8) (oi := { dst := some 40, op := Op.indexAddr 22 (Operand.tmp 38) (Operand.tmp 39), type := 0, pos := _, after := #[{ on := 6, ground := Ground.data }, { on := 7, ground := Ground.data }], guard := none }) (v := _) rfl (by kernel_rfl) (by kernel_rfl) (by kernel_rfl) (fun _ _ _ h => h) (Or.inl ⟨by rfl, by (intro wS hSw; (try dsimp only at hSw); go_simp; try with_reducible rfl)⟩) (by assumption) ?_
      (try simp only [Act.put, List.setIfInBounds_toArray, List.set_cons_zero, List.set_cons_succ])
      refine wpAnyH_take (i := 9) (oi := { dst := some 41, op := Op.indexAddr 34 (Operand.tmp 40) (Operand.const (Value.int IntKind.i64 1)), type := 0, pos := _, after := #[{ on := 8, ground := Ground.data }], guard := none }) (v := _) rfl (by kernel_rfl) (by kernel_rfl) (by kernel_rfl) (fun _ _ _ h => h) (Or.inl ⟨by rfl, by (intro wS hSw; (try dsimp only at hSw); go_simp; try with_reducible rfl)⟩) (by assumption) ?_
      (try simp only [Act.put, List.setIfInBounds_toArray, List.set_cons_zero, List.set_cons_succ])
      refine wpAnyH_take (i := 10) (oi := { dst := some 42, op := Op.load 3 (Operand.tmp 41), type := 3, pos := _, after := #[{ on := 9, ground := Ground.data }], guard := none }) (v := _) rfl (by kernel_rfl) (by kernel_rfl) (by kernel_rfl) (fun _ _ _ h => h) (Or.inl ⟨by rfl, by (intro wS hSw; (try dsimp only at hSw); go_simp; try with_reducible rfl)⟩) (by assumption) ?_
      (try simp only [Act.put, List.setIfInBounds_toArray, List.set_cons_zero, List.set_cons_succ])
      refine wpAnyH_ready (rs := [11, 15]) (by kernel_rfl) (by simp) ?_
      refine (AllReadyH.cons (o := { dst := some 43, op := Op.call { callee := Callee.value (Operand.func 20), args := #[Operand.tmp 32, Operand.tmp 37, Operand.tmp 42], argTypes := #[26, 3, 3] }, type := 45, pos := _, after := #[{ on := 0, ground := Ground.data }, { on := 5, ground := Ground.data }, { on := 10, ground := Ground.data }], guard := none }) rfl (fun K hK => ?_) (AllReadyH.cons (o := { dst := some 9, op := Op.alloc 26, type := 0, pos := _, after := #[], guard := none }) rfl (fun K hK => ?_) AllReadyH.nil))
      · go_simp
        refine (radd_any _ f f' x y z HA.out hf0 hf1).mono ?_
        rintro e w3 ⟨rfl, hk⟩
        first
          | (have E3 := Lib.hid (D7.out.next hk)
             obtain ⟨y0, y1, y2, y3, y4⟩ := res5 E3.out.ans
             obtain ⟨z0, z1, z2, z3, z4⟩ := fro5 E3.out.ans)
          | have E2 := Lib.hid (L2.out.drew.next hk)
        clear hk
        refine hK.out _ _ (by first | with_reducible exact DX.out.lw.s HLK.out | with_reducible exact D7.out.lw.s HLK.out | with_reducible exact E3.out.lw.s HLK.out | with_reducible exact E2.out.s HLK.out | exact DX.out.lw.s HLK.out | exact D7.out.lw.s HLK.out | exact E3.out.lw.s HLK.out | exact E2.out.s HLK.out) (fun hHeld => ?_)
        clear hK K
        (try simp only [Act.put, List.setIfInBounds_toArray, List.set_cons_zero, List.set_cons_succ])
        refine wpAnyH_take (i := 12) (oi := { dst := some 31, op := Op.move (Operand.tmp 43), type := 45, pos := _, after := #[{ on := 11, ground := Ground.data }], guard := none }) (v := _) rfl (by kernel_rfl) (by kernel_rfl) (by kernel_rfl) (fun _ _ _ h => h) (Or.inl ⟨by rfl, by (intro wS hSw; (try dsimp only at hSw); go_simp; try with_reducible rfl)⟩) (by assumption) ?_
        (try simp only [Act.put, List.setIfInBounds_toArray, List.set_cons_zero, List.set_cons_succ])
        refine wpAnyH_take (i := 13) (oi := { dst := some 44, op := Op.extract (Operand.tmp 31) 0, type := 26, pos := _, after := #[{ on := 12, ground := Ground.data }], guard := none }) (v := _) rfl (by kernel_rfl) (by kernel_rfl) (by kernel_rfl) (fun _ _ _ h => h) (Or.inl ⟨by rfl, by (intro wS hSw; (try dsimp only at hSw); go_simp; try with_reducible rfl)⟩) (by assumption) ?_
        (try simp only [Act.put, List.setIfInBounds_toArray, List.set_cons_zero, List.set_cons_succ])
        refine wpAnyH_take (i := 14) (oi := { dst := some 45, op := Op.extract (Operand.tmp 31) 1, type := 29, pos := _, after := #[{ on := 12, ground := Ground.data }, { on := 16, ground := Ground.gcOnly Departure.lateStores }], guard := none }) (v := _) rfl (by kernel_rfl) (by kernel_rfl) (by kernel_rfl) (fun _ _ _ h => h) (Or.inl ⟨by rfl, by (intro wS hSw; (try dsimp only at hSw); go_simp; try with_reducible rfl)⟩) (by assumption) ?_
        (try simp only [Act.put, List.setIfInBounds_toArray, List.set_cons_zero, List.set_cons_succ])
        refine wpAnyH_ready (rs := [15]) (by kernel_rfl) (by simp) ?_
        refine (AllReadyH.cons (o := { dst := some 9, op := Op.alloc 26, type := 0, pos := _, after := #[], guard := none }) rfl (fun K hK => ?_) AllReadyH.nil)
        go_simp
        first
          | have D7 := Lib.hid (E2.out.alloc f0 w3.heap.size rfl)
          | have D7 := Lib.hid (L2.out.drew.alloc f0 w2.heap.size rfl)
        obtain ⟨z0, z1, z2, z3, z4⟩ := fro5 D7.out.ans
        refine hK.out _ _ (by first | with_reducible exact DX.out.lw.s HLK.out | with_reducible exact D7.out.lw.s HLK.out | with_reducible exact E3.out.lw.s HLK.out | with_reducible exact E2.out.s HLK.out | exact DX.out.lw.s HLK.out | exact D7.out.lw.s HLK.out | exact E3.out.lw.s HLK.out | exact E2.out.s HLK.out) (fun hHeld => ?_)
        clear hK K
        (try simp only [Act.put, List.setIfInBounds_toArray, List.set_cons_zero, List.set_cons_succ])
        refine wpAnyH_ready (rs := [16]) (by kernel_rfl) (by simp) ?_
        refine (AllReadyH.cons (o := { dst := none, op := Op.store 26 (Operand.tmp 9) (Operand.tmp 44), type := 0, pos := _, after := #[{ on := 15, ground := Ground.data }, { on := 13, ground := Ground.data }, { on := 11, ground := Ground.chain }, { on := 0, ground := Ground.phase }, { on := 1, ground := Ground.phase }, { on := 2, ground := Ground.phase }, { on := 3, ground := Ground.phase }, { on := 4, ground := Ground.phase }, { on := 5, ground := Ground.phase }, { on := 6, ground := Ground.phase }, { on := 7, ground := Ground.phase }, { on := 8, ground := Ground.phase }, { on := 9, ground := Ground.phase }, { on := 10, ground := Ground.phase }, { on := 11, ground := Ground.phase }, { on := 12, ground := Ground.phase }, { on := 13, ground := Ground.phase }, { on := 14, ground := Ground.textOnly Departure.lateStores }, { on := 15, ground := Ground.phase }], guard := none }) rfl (fun K hK => ?_) AllReadyH.nil)
        go_simp
        first
          | have DX := Lib.hid (E3.out.setAns f')
          | have DX := Lib.hid (E2.out.alloc f' w3.heap.size rfl)
        refine hK.out _ _ (by first | with_reducible exact DX.out.lw.s HLK.out | with_reducible exact D7.out.lw.s HLK.out | with_reducible exact E3.out.lw.s HLK.out | with_reducible exact E2.out.s HLK.out | exact DX.out.lw.s HLK.out | exact D7.out.lw.s HLK.out | exact E3.out.lw.s HLK.out | exact E2.out.s HLK.out) (fun hHeld => ?_)
        clear hK K
        (try simp only [Act.put, List.setIfInBounds_toArray, List.set_cons_zero, List.set_cons_succ])
        refine wpAnyH_take (i := 17) (oi := { dst := some 10, op := Op.assign (Operand.tmp 45), type := 29, pos := _, after := #[{ on := 14, ground := Ground.data }, { on := 16, ground := Ground.chain }, { on := 0, ground := Ground.phase }, { on := 1, ground := Ground.phase }, { on := 2, ground := Ground.phase }, { on := 3, ground := Ground.phase }, { on := 4, ground := Ground.phase }, { on := 5, ground := Ground.phase }, { on := 6, ground := Ground.phase }, { on := 7, ground := Ground.phase }, { on := 8, ground := Ground.phase }, { on := 9, ground := Ground.phase }, { on := 10, ground := Ground.phase }, { on := 11, ground := Ground.phase }, { on := 12, ground := Ground.phase }, { on := 13, ground := Ground.phase }, { on := 14, ground := Ground.phase }, { on := 15, ground := Ground.phase }, { on := 16, ground := Ground.phase }], guard := none }) (v := _) rfl (by kernel_rfl) (by kernel_rfl) (by kernel_rfl) (fun _ _ _ h => h) (Or.inl ⟨by rfl, by (intro wS hSw; (try dsimp only at hSw); go_simp; try with_reducible rfl)⟩) (by assumption) ?_
        (try simp only [Act.put, List.setIfInBounds_toArray, List.set_cons_zero, List.set_cons_succ])
        refine wpAnyH_done (by kernel_rfl) ?_ _
        try unfold set5 at DX
        obtain ⟨s, hs⟩ : ∃ s, s = w3.heap.size := ⟨_, rfl⟩
        obtain ⟨W, hW⟩ : ∃ W, W = (w3.alloc (.cells #[.int .i64 f'.n, .int .i64 f'.g0, .int .i64 f'.b0, .int .i64 f'.g1, .int .i64 f'.b1] 26)) := ⟨_, rfl⟩
        rw [← hW] at DX ⊢
        rw [← hs] at DX ⊢
        clear hW hs s1 s2
        try clear z0 z1 z2 z3 z4
        try clear y0 y1 y2 y3 y4
        try clear D7
        try clear E3
        try clear E2
        obtain ⟨r0, r1, r2, r3, r4⟩ := res5 DX.out.lw.ref
        obtain ⟨q0, q1, q2, q3, q4⟩ := res5 DX.out.ans
        obtain ⟨t0, t1, t2, t3, t4⟩ := fro5 DX.out.lw.ref
        have hW2 := DX.out.setRef f'
        unfold set5 at hW2
        have LY := Lib.hid hW2
        clear hW2
        go_wp2_with fail
        obtain ⟨W2, hW2⟩ : ∃ W2, W2 = (((((W.setCell ⟨p, 0, none⟩ (.int .i64 f'.n)).setCell ⟨p, 1, none⟩ (.int .i64 f'.g0)).setCell ⟨p, 2, none⟩ (.int .i64 f'.b0)).setCell ⟨p, 3, none⟩ (.int .i64 f'.g1)).setCell ⟨p, 4, none⟩ (.int .i64 f'.b1)) := ⟨_, rfl⟩
        rw [← hW2] at LY ⊢
        clear hW2 r0 r1 r2 r3 r4 q0 q1 q2 q3 q4 t0 t1 t2 t3 t4 DX
        have s7 : W2.drew.cell? ⟨p, 0, none⟩ = some (.int .i64 f'.n) := LY.out.drew.ref.cell 0
        go_region_held3 (fun w' => w'.cell? ⟨p, 0, none⟩ = some (.int .i64 f'.n))
          (first | exact s7)
          (first
            | (go_at_call 19
               refine (samples_any _ g f' LY.out.drew.fw.blk).mono ?_
               rintro e w9 ⟨rfl, rfl⟩))
        go_wp2_with fail
        go_roundw
        case rel => exact ⟨k + 1, f', by omega, by go_num, by omega, LY.out.drew⟩
        case measure => simp [intOf]; omega
      · go_simp
        first
          | have D7 := Lib.hid (E2.out.alloc f0 w3.heap.size rfl)
          | have D7 := Lib.hid (L2.out.drew.alloc f0 w2.heap.size rfl)
        obtain ⟨z0, z1, z2, z3, z4⟩ := fro5 D7.out.ans
        refine hK.out _ _ (by first | with_reducible exact DX.out.lw.s HLK.out | with_reducible exact D7.out.lw.s HLK.out | with_reducible exact E3.out.lw.s HLK.out | with_reducible exact E2.out.s HLK.out | exact DX.out.lw.s HLK.out | exact D7.out.lw.s HLK.out | exact E3.out.lw.s HLK.out | exact E2.out.s HLK.out) (fun hHeld => ?_)
        clear hK K
        (try simp only [Act.put, List.setIfInBounds_toArray, List.set_cons_zero, List.set_cons_succ])
        refine wpAnyH_ready (rs := [11]) (by kernel_rfl) (by simp) ?_
        refine (AllReadyH.cons (o := { dst := some 43, op := Op.call { callee := Callee.value (Operand.func 20), args := #[Operand.tmp 32, Operand.tmp 37, Operand.tmp 42], argTypes := #[26, 3, 3] }, type := 45, pos := _, after := #[{ on := 0, ground := Ground.data }, { on := 5, ground := Ground.data }, { on := 10, ground := Ground.data }], guard := none }) rfl (fun K hK => ?_) AllReadyH.nil)
        go_simp
        refine (radd_any _ f f' x y z HA.out hf0 hf1).mono ?_
        rintro e w3 ⟨rfl, hk⟩
        first
          | (have E3 := Lib.hid (D7.out.next hk)
             obtain ⟨y0, y1, y2, y3, y4⟩ := res5 E3.out.ans
             obtain ⟨z0, z1, z2, z3, z4⟩ := fro5 E3.out.ans)
          | have E2 := Lib.hid (L2.out.drew.next hk)
        clear hk
        refine hK.out _ _ (by first | with_reducible exact DX.out.lw.s HLK.out | with_reducible exact D7.out.lw.s HLK.out | with_reducible exact E3.out.lw.s HLK.out | with_reducible exact E2.out.s HLK.out | exact DX.out.lw.s HLK.out | exact D7.out.lw.s HLK.out | exact E3.out.lw.s HLK.out | exact E2.out.s HLK.out) (fun hHeld => ?_)
        clear hK K
        (try simp only [Act.put, List.setIfInBounds_toArray, List.set_cons_zero, List.set_cons_succ])
        refine wpAnyH_take (i := 12) (oi := { dst := some 31, op := Op.move (Operand.tmp 43), type := 45, pos := _, after := #[{ on := 11, ground := Ground.data }], guard := none }) (v := _) rfl (by kernel_rfl) (by kernel_rfl) (by kernel_rfl) (fun _ _ _ h => h) (Or.inl ⟨by rfl, by (intro wS hSw; (try dsimp only at hSw); go_simp; try with_reducible rfl)⟩) (by assumption) ?_
        (try simp only [Act.put, List.setIfInBounds_toArray, List.set_cons_zero, List.set_cons_succ])
        refine wpAnyH_take (i := 13) (oi := { dst := some 44, op := Op.extract (Operand.tmp 31) 0, type := 26, pos := _, after := #[{ on := 12, ground := Ground.data }], guard := none }) (v := _) rfl (by kernel_rfl) (by kernel_rfl) (by kernel_rfl) (fun _ _ _ h => h) (Or.inl ⟨by rfl, by (intro wS hSw; (try dsimp only at hSw); go_simp; try with_reducible rfl)⟩) (by assumption) ?_
        (try simp only [Act.put, List.setIfInBounds_toArray, List.set_cons_zero, List.set_cons_succ])
        refine wpAnyH_take (i := 14) (oi := { dst := some 45, op := Op.extract (Operand.tmp 31) 1, type := 29, pos := _, after := #[{ on := 12, ground := Ground.data }, { on := 16, ground := Ground.gcOnly Departure.lateStores }], guard := none }) (v := _) rfl (by kernel_rfl) (by kernel_rfl) (by kernel_rfl) (fun _ _ _ h => h) (Or.inl ⟨by rfl, by (intro wS hSw; (try dsimp only at hSw); go_simp; try with_reducible rfl)⟩) (by assumption) ?_
        (try simp only [Act.put, List.setIfInBounds_toArray, List.set_cons_zero, List.set_cons_succ])
        refine wpAnyH_ready (rs := [16]) (by kernel_rfl) (by simp) ?_
        refine (AllReadyH.cons (o := { dst := none, op := Op.store 26 (Operand.tmp 9) (Operand.tmp 44), type := 0, pos := _, after := #[{ on := 15, ground := Ground.data }, { on := 13, ground := Ground.data }, { on := 11, ground := Ground.chain }, { on := 0, ground := Ground.phase }, { on := 1, ground := Ground.phase }, { on := 2, ground := Ground.phase }, { on := 3, ground := Ground.phase }, { on := 4, ground := Ground.phase }, { on := 5, ground := Ground.phase }, { on := 6, ground := Ground.phase }, { on := 7, ground := Ground.phase }, { on := 8, ground := Ground.phase }, { on := 9, ground := Ground.phase }, { on := 10, ground := Ground.phase }, { on := 11, ground := Ground.phase }, { on := 12, ground := Ground.phase }, { on := 13, ground := Ground.phase }, { on := 14, ground := Ground.textOnly Departure.lateStores }, { on := 15, ground := Ground.phase }], guard := none }) rfl (fun K hK => ?_) AllReadyH.nil)
        go_simp
        first
          | have DX := Lib.hid (E3.out.setAns f')
          | have DX := Lib.hid (E2.out.alloc f' w3.heap.size rfl)
        refine hK.out _ _ (by first | with_reducible exact DX.out.lw.s HLK.out | with_reducible exact D7.out.lw.s HLK.out | with_reducible exact E3.out.lw.s HLK.out | with_reducible exact E2.out.s HLK.out | exact DX.out.lw.s HLK.out | exact D7.out.lw.s HLK.out | exact E3.out.lw.s HLK.out | exact E2.out.s HLK.out) (fun hHeld => ?_)
        clear hK K
        (try simp only [Act.put, List.setIfInBounds_toArray, List.set_cons_zero, List.set_cons_succ])
        refine wpAnyH_take (i := 17) (oi := { dst := some 10, op := Op.assign (Operand.tmp 45), type := 29, pos := _, after := #[{ on := 14, ground := Ground.data }, { on := 16, ground := Ground.chain }, { on := 0, ground := Ground.phase }, { on := 1, ground := Ground.phase }, { on := 2, ground := Ground.phase }, { on := 3, ground := Ground.phase }, { on := 4, ground := Ground.phase }, { on := 5, ground := Ground.phase }, { on := 6, ground := Ground.phase }, { on := 7, ground := Ground.phase }, { on := 8, ground := Ground.phase }, { on := 9, ground := Ground.phase }, { on := 10, ground := Ground.phase }, { on := 11, ground := Ground.phase }, { on := 12, ground := Ground.phase }, { on := 13, ground := Ground.phase }, { on := 14, ground := Ground.phase }, { on := 15, ground := Ground.phase }, { on := 16, ground := Ground.phase }], guard := none }) (v := _) rfl (by kernel_rfl) (by kernel_rfl) (by kernel_rfl) (fun _ _ _ h => h) (Or.inl ⟨by rfl, by (intro wS hSw; (try dsimp only at hSw); go_simp; try with_reducible rfl)⟩) (by assumption) ?_
        (try simp only [Act.put, List.setIfInBounds_toArray, List.set_cons_zero, List.set_cons_succ])
        refine wpAnyH_done (by kernel_rfl) ?_ _
        try unfold set5 at DX
        obtain ⟨s, hs⟩ : ∃ s, s = w2.heap.size := ⟨_, rfl⟩
        obtain ⟨W, hW⟩ : ∃ W, W = ((((((w3).setCell ⟨w2.heap.size, 0, none⟩ (.int .i64 f'.n)).setCell ⟨w2.heap.size, 1, none⟩ (.int .i64 f'.g0)).setCell ⟨w2.heap.size, 2, none⟩ (.int .i64 f'.b0)).setCell ⟨w2.heap.size, 3, none⟩ (.int .i64 f'.g1)).setCell ⟨w2.heap.size, 4, none⟩ (.int .i64 f'.b1)) := ⟨_, rfl⟩
        rw [← hW] at DX ⊢
        rw [← hs] at DX ⊢
        clear hW hs s1 s2
        try clear z0 z1 z2 z3 z4
        try clear y0 y1 y2 y3 y4
        try clear D7
        try clear E3
        try clear E2
        obtain ⟨r0, r1, r2, r3, r4⟩ := res5 DX.out.lw.ref
        obtain ⟨q0, q1, q2, q3, q4⟩ := res5 DX.out.ans
        obtain ⟨t0, t1, t2, t3, t4⟩ := fro5 DX.out.lw.ref
        have hW2 := DX.out.setRef f'
        unfold set5 at hW2
        have LY := Lib.hid hW2
        clear hW2
        go_wp2_with fail
        obtain ⟨W2, hW2⟩ : ∃ W2, W2 = (((((W.setCell ⟨p, 0, none⟩ (.int .i64 f'.n)).setCell ⟨p, 1, none⟩ (.int .i64 f'.g0)).setCell ⟨p, 2, none⟩ (.int .i64 f'.b0)).setCell ⟨p, 3, none⟩ (.int .i64 f'.g1)).setCell ⟨p, 4, none⟩ (.int .i64 f'.b1)) := ⟨_, rfl⟩
        rw [← hW2] at LY ⊢
        clear hW2 r0 r1 r2 r3 r4 q0 q1 q2 q3 q4 t0 t1 t2 t3 t4 DX
        have s7 : W2.drew.cell? ⟨p, 0, none⟩ = some (.int .i64 f'.n) := LY.out.drew.ref.cell 0
        go_region_held3 (fun w' => w'.cell? ⟨p, 0, none⟩ = some (.int .i64 f'.n))
          (first | exact s7)
          (first
            | (go_at_call 19
               refine (samples_any _ g f' LY.out.drew.fw.blk).mono ?_
               rintro e w9 ⟨rfl, rfl⟩))
        go_wp2_with fail
        go_roundw
        case rel => exact ⟨k + 1, f', by omega, by go_num, by omega, LY.out.drew⟩
        case measure => simp [intOf]; omega

    · obtain rfl : k = n := by omega
      obtain ⟨r0, r1, r2, r3, r4⟩ := res5 L.out.ref
      obtain ⟨q0, q1, q2, q3, q4⟩ := res5 L.out.res
      obtain ⟨t0, t1, t2, t3, t4⟩ := fro5 L.out.res
      go_wp2_with fail
      have s5 := res5 L.out.drew.ref
      have s6 := res5 (L.out.ref.keepS (set5_keep wr w.heap.size f) (by have := L.out.hg; have := L.out.hp; simp; omega)).drew
      unfold set5 at s6
      have LR := Lib.hid L.out.setRes
      go_region_held3 (fun w' => w'.cell? ⟨p, 0, none⟩ = some (.int .i64 f.n) ∧ w'.cell? ⟨p, 1, none⟩ = some (.int .i64 f.g0) ∧ w'.cell? ⟨p, 2, none⟩ = some (.int .i64 f.b0) ∧ w'.cell? ⟨p, 3, none⟩ = some (.int .i64 f.g1) ∧ w'.cell? ⟨p, 4, none⟩ = some (.int .i64 f.b1))
        (first | with_reducible exact s5 | with_reducible exact s6) (fail)
      go_wp2_with fail
      refine bodyPost_ret (v := .tuple #[pf g, ragg f, .bool true]) (by simp [results, Try.results9, go_sem, q0, q1, q2, q3, q4]) rfl ⟨g, f, rfl, LR.out.1, hfn, LR.out.2⟩
end Go.Proofs.Ytdckpamempejgaa
