/- The program's fields: what it answers. -/
import Derived.Test.YtijionfhnoffcaaPDec0
namespace Go.Proofs.Ytijionfhnoffcaa
set_option linter.unusedVariables false
set_option linter.unusedSimpArgs false
theorem i64_in (n : Int) (h0 : -9223372036854775808 ≤ n) (h1 : n < 9223372036854775808) : IntKind.i64.wrap n = n := by rw [IntKind.wrap_i64]; omega
theorem u32_in (n : Int) (h0 : 0 ≤ n) (h1 : n < 4294967296) : IntKind.u32.wrap n = n := by rw [IntKind.wrap_u32]; omega
def okB (x : Pd × RS) : Bool := endS x.2 && validP x.1
def FdPost (w : World) (g : Nat) (x : Pd × RS) (e : Ending) (W : World) : Prop :=
  Keep w.heap.size [g] w W ∧ (okB x = false → e = .panicked [{ v := .iface 57 (.agg #[]), recovered := false }]) ∧
  (okB x = true → ∃ l, e = .returned (.agg (pcs x.1 l)) ∧ PIn W x.1 l ∧ (∀ y, y ∈ blks l.D → w.heap.size ≤ y) ∧ ∀ y, y ∈ blks l.G → w.heap.size ≤ y)
theorem zin (W : World) (k a n : Int) : PIn W (zeroP k a n) zL := ⟨oct_nil, oct_nil, Vw.nil _ _, Vw.nil _ _, ⟨Nat.le_refl _, Nat.zero_le _⟩, ⟨Nat.le_refl _, Nat.zero_le _⟩, by simp [zeroP], by simp [zL], by simp [zL], by simp [zeroP]⟩
theorem Keep.trans0 {w W W' : World} {g : Nat} (h : Keep w.heap.size [] w W) (k : Keep W.heap.size [g] W W') : Keep w.heap.size [g] w W' :=
  (h.mono (Nat.le_refl _) (by simp)).trans (k.mono h.size (fun _ _ hx => hx))
/-- the unit's block is new -/
theorem FW.first {R : RdT} {w W : World} {g : Nat} {X X1 : Option Addr} {s : RS} (kr : KR R) (hg : g < w.heap.size) (hX : ∀ x, x ∈ blks X → x < w.heap.size) (hr : R W g X1 s) (ok : RSok s) (k : Keep w.heap.size [g] w W) (hx : ∀ x, x ∈ blks X1 → x ∈ blks X) (kd : Int) :
    FW R w (W.alloc (.cells (pcs (zeroP kd 0 0) zL) TP)) g W.heap.size X1 s (zeroP kd 0 0) zL := by
  have h1 : Keep W.heap.size [] W (W.alloc (.cells (pcs (zeroP kd 0 0) zL) TP)) := (Keep.refl _ _ _).alloc (Nat.le_refl _) _
  exact ⟨k.trans (h1.mono k.size (by simp)), hg, kr _ _ _ _ _ _ hr h1 (by simp) (by simp), ok, fun x h => hX x (hx x h), Blk.new _ _ _, k.size, zin _ _ _ _, by simp [blks, zL], by simp [blks, zL]⟩
theorem FW.setID {R : RdT} {w W : World} {g b : Nat} {X : Option Addr} {s : RS} {p : Pd} {l : Lc} (h : FW R w W g b X s p l) (kr : KR R) (a n : Int) : FW R w ((W.setCell ⟨b, 1, none⟩ (.int .i64 a)).setCell ⟨b, 2, none⟩ (.int .i64 n)) g b X s { p with src := a, num := n } l :=
  (h.setSrc kr a).setNum kr n
/-- the result is laid -/
theorem set_keep (W : World) (r : Nat) (p : Pd) (l : Lc) : Keep W.heap.size [r] W (((((((((((W.setCell ⟨r, 0, none⟩ (.int .i64 p.kind)).setCell ⟨r, 1, none⟩ (.int .i64 p.src)).setCell ⟨r, 2, none⟩ (.int .i64 p.num)).setCell ⟨r, 3, none⟩ (.int .i64 p.cls)).setCell ⟨r, 4, none⟩ (.string (strOfNums p.name))).setCell ⟨r, 5, none⟩ (.int .i64 p.size)).setCell ⟨r, 6, none⟩ (.int .i64 p.off)).setCell ⟨r, 7, none⟩ (.slice l.D l.dn l.dc)).setCell ⟨r, 8, none⟩ (.int .u32 p.sum)).setCell ⟨r, 9, none⟩ (.int .i64 p.code)).setCell ⟨r, 10, none⟩ (.slice l.G l.gn l.gc)) :=
  ((((((((((((Keep.refl _ _ _)).set1).set1).set1).set1).set1).set1).set1).set1).set1).set1).set1
theorem pcs_set (cs : Array Value) (h : cs.size = 11) (p : Pd) (l : Lc) : (((((((((((cs.setIfInBounds 0 (.int .i64 p.kind)).setIfInBounds 1 (.int .i64 p.src)).setIfInBounds 2 (.int .i64 p.num)).setIfInBounds 3 (.int .i64 p.cls)).setIfInBounds 4 (.string (strOfNums p.name))).setIfInBounds 5 (.int .i64 p.size)).setIfInBounds 6 (.int .i64 p.off)).setIfInBounds 7 (.slice l.D l.dn l.dc)).setIfInBounds 8 (.int .u32 p.sum)).setIfInBounds 9 (.int .i64 p.code)).setIfInBounds 10 (.slice l.G l.gn l.gc)) = pcs p l := by
  apply Array.ext'
  obtain ⟨L⟩ := cs
  match L, h with
  | [a0, a1, a2, a3, a4, a5, a6, a7, a8, a9, a10], _ => simp [pcs]
theorem set_blk (W : World) (r : Nat) (p : Pd) (l : Lc) (cs : Array Value) (h : Blk W r TP cs) (hs : cs.size = 11) : Blk (((((((((((W.setCell ⟨r, 0, none⟩ (.int .i64 p.kind)).setCell ⟨r, 1, none⟩ (.int .i64 p.src)).setCell ⟨r, 2, none⟩ (.int .i64 p.num)).setCell ⟨r, 3, none⟩ (.int .i64 p.cls)).setCell ⟨r, 4, none⟩ (.string (strOfNums p.name))).setCell ⟨r, 5, none⟩ (.int .i64 p.size)).setCell ⟨r, 6, none⟩ (.int .i64 p.off)).setCell ⟨r, 7, none⟩ (.slice l.D l.dn l.dc)).setCell ⟨r, 8, none⟩ (.int .u32 p.sum)).setCell ⟨r, 9, none⟩ (.int .i64 p.code)).setCell ⟨r, 10, none⟩ (.slice l.G l.gn l.gc)) r TP (pcs p l) := by
  have := ((((((((((h.set_ 0 (.int .i64 p.kind)).set_ 1 (.int .i64 p.src)).set_ 2 (.int .i64 p.num)).set_ 3 (.int .i64 p.cls)).set_ 4 (.string (strOfNums p.name))).set_ 5 (.int .i64 p.size)).set_ 6 (.int .i64 p.off)).set_ 7 (.slice l.D l.dn l.dc)).set_ 8 (.int .u32 p.sum)).set_ 9 (.int .i64 p.code)).set_ 10 (.slice l.G l.gn l.gc)
  rw [pcs_set cs hs p l] at this
  exact this
theorem ret_ok {w W : World} {g r : Nat} {p : Pd} {l : Lc} (k : Keep w.heap.size [g] w W) (hr : w.heap.size ≤ r) (pin : PIn W p l) (hD : ∀ x, x ∈ blks l.D → x ≠ r) (hG : ∀ x, x ∈ blks l.G → x ≠ r) :
    Keep w.heap.size [g] w (((((((((((W.setCell ⟨r, 0, none⟩ (.int .i64 p.kind)).setCell ⟨r, 1, none⟩ (.int .i64 p.src)).setCell ⟨r, 2, none⟩ (.int .i64 p.num)).setCell ⟨r, 3, none⟩ (.int .i64 p.cls)).setCell ⟨r, 4, none⟩ (.string (strOfNums p.name))).setCell ⟨r, 5, none⟩ (.int .i64 p.size)).setCell ⟨r, 6, none⟩ (.int .i64 p.off)).setCell ⟨r, 7, none⟩ (.slice l.D l.dn l.dc)).setCell ⟨r, 8, none⟩ (.int .u32 p.sum)).setCell ⟨r, 9, none⟩ (.int .i64 p.code)).setCell ⟨r, 10, none⟩ (.slice l.G l.gn l.gc)) ∧ PIn (((((((((((W.setCell ⟨r, 0, none⟩ (.int .i64 p.kind)).setCell ⟨r, 1, none⟩ (.int .i64 p.src)).setCell ⟨r, 2, none⟩ (.int .i64 p.num)).setCell ⟨r, 3, none⟩ (.int .i64 p.cls)).setCell ⟨r, 4, none⟩ (.string (strOfNums p.name))).setCell ⟨r, 5, none⟩ (.int .i64 p.size)).setCell ⟨r, 6, none⟩ (.int .i64 p.off)).setCell ⟨r, 7, none⟩ (.slice l.D l.dn l.dc)).setCell ⟨r, 8, none⟩ (.int .u32 p.sum)).setCell ⟨r, 9, none⟩ (.int .i64 p.code)).setCell ⟨r, 10, none⟩ (.slice l.G l.gn l.gc)) p l :=
  ⟨k.trans ((set_keep W r p l).mono k.size (fun x hx hm => by rcases List.mem_singleton.1 hm with rfl; omega)), pin.keepS (set_keep W r p l) (fun x hx => by simpa using hD x hx) (fun x hx => by simpa using hG x hx)⟩
end Go.Proofs.Ytijionfhnoffcaa
