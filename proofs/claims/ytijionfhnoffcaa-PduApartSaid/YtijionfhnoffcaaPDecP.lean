/- The program's Decode. -/
import Derived.Test.YtijionfhnoffcaaPDecC
import Derived.Test.YtijionfhnoffcaaPFld
import Derived.Deep.DeepCutAuto
namespace Go.Proofs.Ytijionfhnoffcaa
set_option linter.unusedVariables false
set_option linter.unusedSimpArgs false
open Go.RowKit
def decR : Option Pd → Pd × Int
  | some p => (p, 0)
  | none => (zP, 4)
def DecPost (w : World) (p : Pd) (z : Int) (e : Ending) (W : World) : Prop := Keep w.heap.size [] w W ∧ ∃ l, e = .returned (.tuple #[.agg (pcs p l), .int .i64 z]) ∧ PIn W p l ∧ (∀ y, y ∈ blks l.D → w.heap.size ≤ y) ∧ ∀ y, y ∈ blks l.G → w.heap.size ≤ y
set_option maxRecDepth 100000 in
set_option maxHeartbeats 4000000 in
theorem pdec_any (w : World) (X : Option Addr) (m c : Nat) (L : List Int) (hO : Oct L) (hl : L.length ≤ 100000) (hv : Vw w X m 1 (octs L)) :
    Calls Try.prog 16 #[.slice X m c] w (DecPost w (decR (decP L)).1 (decR (decP L)).2) := by
  have hml : m = L.length := by have := hv.1; simp [octs] at this; omega
  have hm : m ≤ 140737488355328 := by omega
  have rs : RSok (some L) := by rintro _ ⟨⟩; exact ⟨hO, by omega⟩
  have RS := Lib.hid rs
  clear hml rs
  have hd : decP L = if okB (fld (some L)) then some (fld (some L)).1 else none := rfl
  rw [hd]
  clear hd
  obtain ⟨q, hq⟩ : ∃ q, fld (some L) = q := ⟨_, rfl⟩
  rw [hq]
  obtain ⟨O, hOO⟩ : ∃ O, decR (if okB q = true then some q.1 else none) = O := ⟨_, rfl⟩
  rw [hOO]
  have HOO := Lib.hid hOO
  have HQ := Lib.hid hq
  clear hOO hq
  obtain ⟨W0, hW0⟩ : ∃ W, W = (w.alloc (.cells (pcs zP zL) TP)).alloc (.cells #[.int .i64 0] 26) := ⟨_, rfl⟩
  have k1 : Keep w.heap.size [] w W0 := by rw [hW0]; exact ((Keep.refl _ _ w).alloc (Nat.le_refl _) _).alloc (by simp) _
  have K0 := Lib.hid k1
  have hbr : Blk W0 w.heap.size TP (pcs zP zL) := by rw [hW0]; exact (Blk.new _ _ _).alloc _
  have hbe : Blk W0 (w.heap.size + 1) 26 #[.int .i64 0] := by
    rw [hW0]
    have := Blk.new (w.alloc (.cells (pcs zP zL) TP)) 26 #[.int .i64 0]
    simpa using this
  obtain ⟨r, hr⟩ : ∃ r, r = w.heap.size := ⟨_, rfl⟩
  rw [← hr] at hbr hbe
  obtain ⟨en, hen⟩ : ∃ e, e = r + 1 := ⟨_, rfl⟩
  rw [← hen] at hbe
  have BR := Lib.hid hbr
  have BE := Lib.hid hbe
  have HV := Lib.hid (hv.keep0 k1)
  have hrl := hbe.lt
  have hr0 : w.heap.size ≤ r := by omega
  clear k1 hbr hbe hv
  have hmf : ∀ (fn : Fn) (first cap : Array Value) (w : World), (Instr.makeFunc fn first cap).run Try.prog w = .ok (.func fn first cap) w := fun _ _ _ _ => rfl
  go_enter_defers Try.func16, Try.ntmps16
  go_upto_region 1 with fail
  change Code.wp _ _ _ _ ((w.alloc (.cells (pcs zP zL) TP)).alloc (.cells #[.int .i64 0] 26))
  rw [← hW0, ← hr, ← hen]
  have hne : r ≠ en := by omega
  have hen0 : w.heap.size ≤ en := by omega
  clear hW0 hr hen
  go_wp2_with fail
  refine (rnew_all _ X m c L hm HV.out).mono ?_
  rintro e W1 ⟨g, A', rfl, h1, h2, h3, _, h5⟩
  have R1 := Lib.hid h1
  have K1 := Lib.hid h2
  have A5 := Lib.hid h5
  have hgl : g < W1.heap.size := by obtain ⟨_, _, _, _, _, hb, _⟩ := h1; exact hb.lt
  clear h1 h2 h5
  go_wp2_with fail
  refine (pfld_any _ g A' (some L) RS.out R1.out hgl A5.out).mono ?_
  rw [HQ.out]
  have hel := BE.out.lt
  have hr1 : r ≠ g := by have := BR.out.lt; omega
  have he1 : en ≠ g := by omega
  have hrW : r < W1.heap.size ∧ en < W1.heap.size := ⟨Nat.lt_of_lt_of_le (BR.out.lt) K1.out.size, Nat.lt_of_lt_of_le (BE.out.lt) K1.out.size⟩
  rintro e W2 ⟨hk, hf, ht⟩
  have KR : Hid (Keep w.heap.size [] w W2) := Lib.hid (K0.out.chain1 (Nat.le_refl _) (by exact (Keep.trans0 K1.out hk)) (by omega))
  have BR2 : Hid (Blk W2 r TP (pcs zP zL)) := Lib.hid ((BR.out.keepS K1.out (by simp)).keepS hk (by simpa using hr1))
  have BE2 : Hid (Blk W2 en 26 #[.int .i64 0]) := Lib.hid ((BE.out.keepS K1.out (by simp)).keepS hk (by simpa using he1))
  clear hk
  cases hok : okB q with
  | true =>
    obtain ⟨l, rfl, pin, hD, hG⟩ := ht hok
    have PN := Lib.hid pin
    have HOK := Lib.hid hok
    clear ht hf pin hok
    simp only [pcs]
    have x0 : W2.cell? ⟨r, 0, none⟩ = some (.int .i64 0) := BR2.out.cell 0
    have y0 := BR2.out.frozen 0
    have x1 : W2.cell? ⟨r, 1, none⟩ = some (.int .i64 0) := BR2.out.cell 1
    have y1 := BR2.out.frozen 1
    have x2 : W2.cell? ⟨r, 2, none⟩ = some (.int .i64 0) := BR2.out.cell 2
    have y2 := BR2.out.frozen 2
    have x3 : W2.cell? ⟨r, 3, none⟩ = some (.int .i64 0) := BR2.out.cell 3
    have y3 := BR2.out.frozen 3
    have x4 : W2.cell? ⟨r, 4, none⟩ = some (.string ⟨#[]⟩) := BR2.out.cell 4
    have y4 := BR2.out.frozen 4
    have x5 : W2.cell? ⟨r, 5, none⟩ = some (.int .i64 0) := BR2.out.cell 5
    have y5 := BR2.out.frozen 5
    have x6 : W2.cell? ⟨r, 6, none⟩ = some (.int .i64 0) := BR2.out.cell 6
    have y6 := BR2.out.frozen 6
    have x7 : W2.cell? ⟨r, 7, none⟩ = some (.slice none 0 0) := BR2.out.cell 7
    have y7 := BR2.out.frozen 7
    have x8 : W2.cell? ⟨r, 8, none⟩ = some (.int .u32 0) := BR2.out.cell 8
    have y8 := BR2.out.frozen 8
    have x9 : W2.cell? ⟨r, 9, none⟩ = some (.int .i64 0) := BR2.out.cell 9
    have y9 := BR2.out.frozen 9
    have x10 : W2.cell? ⟨r, 10, none⟩ = some (.slice none 0 0) := BR2.out.cell 10
    have y10 := BR2.out.frozen 10
    have hkz := set_keep W2 r q.1 l
    have hbz := BE2.out.keepS hkz (by simpa using Ne.symm hne)
    have xe : (((((((((((W2.setCell ⟨r, 0, none⟩ (.int .i64 q.1.kind)).setCell ⟨r, 1, none⟩ (.int .i64 q.1.src)).setCell ⟨r, 2, none⟩ (.int .i64 q.1.num)).setCell ⟨r, 3, none⟩ (.int .i64 q.1.cls)).setCell ⟨r, 4, none⟩ (.string (strOfNums q.1.name))).setCell ⟨r, 5, none⟩ (.int .i64 q.1.size)).setCell ⟨r, 6, none⟩ (.int .i64 q.1.off)).setCell ⟨r, 7, none⟩ (.slice l.D l.dn l.dc)).setCell ⟨r, 8, none⟩ (.int .u32 q.1.sum)).setCell ⟨r, 9, none⟩ (.int .i64 q.1.code)).setCell ⟨r, 10, none⟩ (.slice l.G l.gn l.gc)).cell? ⟨en, 0, none⟩ = some (.int .i64 0) := hbz.cell 0
    have ye : (((((((((((W2.setCell ⟨r, 0, none⟩ (.int .i64 q.1.kind)).setCell ⟨r, 1, none⟩ (.int .i64 q.1.src)).setCell ⟨r, 2, none⟩ (.int .i64 q.1.num)).setCell ⟨r, 3, none⟩ (.int .i64 q.1.cls)).setCell ⟨r, 4, none⟩ (.string (strOfNums q.1.name))).setCell ⟨r, 5, none⟩ (.int .i64 q.1.size)).setCell ⟨r, 6, none⟩ (.int .i64 q.1.off)).setCell ⟨r, 7, none⟩ (.slice l.D l.dn l.dc)).setCell ⟨r, 8, none⟩ (.int .u32 q.1.sum)).setCell ⟨r, 9, none⟩ (.int .i64 q.1.code)).setCell ⟨r, 10, none⟩ (.slice l.G l.gn l.gc)).frozen? ⟨en, 0, none⟩ = false := hbz.frozen 0
    have hbx := set_blk W2 r q.1 l (pcs zP zL) BR2.out rfl
    have hbe3 := hbz
    have hkk := (hkz.mono (Nat.le_refl _) (fun x _ hx => hx) : Keep W2.heap.size [r] W2 _)
    clear hkz hbz
    go_wp2_with fail
    refine leaves_cons (f := 36) (args := #[.pointer (some ⟨r, 0, none⟩), .pointer (some ⟨en, 0, none⟩)]) (by simp) (by simp [go_sem]) ?_
    have hb3 := hbx.far (p := ⟨en, 0, none⟩) hne (.int .i64 0)
    have he3 := hbe3.set_ 0 (.int .i64 0)
    have hk3 := (hkk.mono (S' := [r, en]) (Nat.le_refl _) (fun x _ hx => by simp at hx ⊢; exact .inl hx)).setS (g := en) (i := 0) (u := .int .i64 0) (by simp)
    obtain ⟨W3, hW3⟩ : ∃ W, W = ((((((((((((W2.setCell ⟨r, 0, none⟩ (.int .i64 q.1.kind)).setCell ⟨r, 1, none⟩ (.int .i64 q.1.src)).setCell ⟨r, 2, none⟩ (.int .i64 q.1.num)).setCell ⟨r, 3, none⟩ (.int .i64 q.1.cls)).setCell ⟨r, 4, none⟩ (.string (strOfNums q.1.name))).setCell ⟨r, 5, none⟩ (.int .i64 q.1.size)).setCell ⟨r, 6, none⟩ (.int .i64 q.1.off)).setCell ⟨r, 7, none⟩ (.slice l.D l.dn l.dc)).setCell ⟨r, 8, none⟩ (.int .u32 q.1.sum)).setCell ⟨r, 9, none⟩ (.int .i64 q.1.code)).setCell ⟨r, 10, none⟩ (.slice l.G l.gn l.gc)).setCell ⟨en, 0, none⟩ (.int .i64 0)) := ⟨_, rfl⟩
    rw [← hW3] at hb3 he3 hk3 ⊢
    clear hW3 hbx hbe3 hkk xe ye x0 x1 x2 x3 x4 x5 x6 x7 x8 x9 x10 y0 y1 y2 y3 y4 y5 y6 y7 y8 y9 y10
    refine (catch_idle r en _).mono ?_
    rintro e u' w'' ⟨rfl, rfl, hww⟩
    obtain rfl := hww.symm
    have z0 : W3.cell? ⟨r, 0, none⟩ = some (.int .i64 q.1.kind) := hb3.cell 0
    have z1 : W3.cell? ⟨r, 1, none⟩ = some (.int .i64 q.1.src) := hb3.cell 1
    have z2 : W3.cell? ⟨r, 2, none⟩ = some (.int .i64 q.1.num) := hb3.cell 2
    have z3 : W3.cell? ⟨r, 3, none⟩ = some (.int .i64 q.1.cls) := hb3.cell 3
    have z4 : W3.cell? ⟨r, 4, none⟩ = some (.string (strOfNums q.1.name)) := hb3.cell 4
    have z5 : W3.cell? ⟨r, 5, none⟩ = some (.int .i64 q.1.size) := hb3.cell 5
    have z6 : W3.cell? ⟨r, 6, none⟩ = some (.int .i64 q.1.off) := hb3.cell 6
    have z7 : W3.cell? ⟨r, 7, none⟩ = some (.slice l.D l.dn l.dc) := hb3.cell 7
    have z8 : W3.cell? ⟨r, 8, none⟩ = some (.int .u32 q.1.sum) := hb3.cell 8
    have z9 : W3.cell? ⟨r, 9, none⟩ = some (.int .i64 q.1.code) := hb3.cell 9
    have z10 : W3.cell? ⟨r, 10, none⟩ = some (.slice l.G l.gn l.gc) := hb3.cell 10
    have ze : W3.cell? ⟨en, 0, none⟩ = some (.int .i64 0) := he3.cell 0
    simp [Leaves, settle, results, Try.results16, go_sem, z0, z1, z2, z3, z4, z5, z6, z7, z8, z9, z10, ze]
    have hO2 : O = (q.1, 0) := by rw [← HOO.out, if_pos HOK.out]; rfl
    rw [hO2]
    exact ⟨KR.out.chain2 (Nat.le_refl _) hk3 hr0 hen0, l, rfl, PN.out.keepS hk3 (fun x hx => by have := hD x hx; simp; omega) (fun x hx => by have := hG x hx; simp; omega), (fun x hx => by have := hD x hx; omega), (fun x hx => by have := hG x hx; omega)⟩
  | false =>
    obtain rfl := hf hok
    have HOK := Lib.hid hok
    clear ht hf hok
    go_wp2_with fail
    refine leaves_cons (f := 36) (args := #[.pointer (some ⟨r, 0, none⟩), .pointer (some ⟨en, 0, none⟩)]) (by simp) (by simp [go_sem]) ?_
    refine (catch_mal r en [] _ zP zL 0 hne BR2.out BE2.out).mono ?_
    rintro e u' W3 ⟨rfl, rfl, hk3, hb3, he3⟩
    have z0 : W3.cell? ⟨r, 0, none⟩ = some (.int .i64 0) := hb3.cell 0
    have z1 : W3.cell? ⟨r, 1, none⟩ = some (.int .i64 0) := hb3.cell 1
    have z2 : W3.cell? ⟨r, 2, none⟩ = some (.int .i64 0) := hb3.cell 2
    have z3 : W3.cell? ⟨r, 3, none⟩ = some (.int .i64 0) := hb3.cell 3
    have z4 : W3.cell? ⟨r, 4, none⟩ = some (.string ⟨#[]⟩) := hb3.cell 4
    have z5 : W3.cell? ⟨r, 5, none⟩ = some (.int .i64 0) := hb3.cell 5
    have z6 : W3.cell? ⟨r, 6, none⟩ = some (.int .i64 0) := hb3.cell 6
    have z7 : W3.cell? ⟨r, 7, none⟩ = some (.slice none 0 0) := hb3.cell 7
    have z8 : W3.cell? ⟨r, 8, none⟩ = some (.int .u32 0) := hb3.cell 8
    have z9 : W3.cell? ⟨r, 9, none⟩ = some (.int .i64 0) := hb3.cell 9
    have z10 : W3.cell? ⟨r, 10, none⟩ = some (.slice none 0 0) := hb3.cell 10
    have ze : W3.cell? ⟨en, 0, none⟩ = some (.int .i64 4) := he3.cell 0
    simp [Leaves, settle, results, Try.results16, go_sem, z0, z1, z2, z3, z4, z5, z6, z7, z8, z9, z10, ze]
    have hO2 : O = (zP, 4) := by rw [← HOO.out, if_neg (by rw [HOK.out]; simp)]; rfl
    rw [hO2]
    exact ⟨KR.out.chain2 (Nat.le_refl _) hk3 hr0 hen0, zL, rfl, zin _ 0 0 0, by simp [blks, zL], by simp [blks, zL]⟩
end Go.Proofs.Ytijionfhnoffcaa
