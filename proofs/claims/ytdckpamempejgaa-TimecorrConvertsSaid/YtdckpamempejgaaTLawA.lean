/- The law package's alive and None; what load knows on its way. -/
import Derived.Test.YtdckpamempejgaaTRAdd
namespace Go.Proofs.Ytdckpamempejgaa
set_option linter.unusedVariables false
set_option linter.unusedSimpArgs false
open Go.RowKit
def LawPost (w : World) (e : Ending) (w' : World) : Prop := e = .returned (.bool true) ∧ Keep w.heap.size [] w w'
/-- a world that holds a correlation of the call's own -/
structure FW (w W : World) (g : Nat) (f : Ft) : Prop where
  keep : Keep w.heap.size [] w W
  blk : Blk W g 51 (fcells f)
  hg : w.heap.size ≤ g
  ok : Fo f
theorem FW.add {w W W' : World} {g : Nat} {f f' : Ft} {a b z : Int} (h : FW w W g f) (hn : f.n < 1000000) (ha : addP f a b = (f', z)) (hb : Blk W' g 51 (fcells f')) (hk : Keep W.heap.size [g] W W') : FW w W' g f' :=
  ⟨h.keep.chain1 (Nat.le_refl _) hk h.hg, hb, h.hg, by have := (add_ok (f := f) (a := a) (b := b) h.ok hn).1; rw [ha] at this; exact this⟩
theorem FW.next {w W W' : World} {g : Nat} {f : Ft} (h : FW w W g f) (hk : Keep W.heap.size [] W W') : FW w W' g f :=
  ⟨h.keep.chain0 (Nat.le_refl _) hk, h.blk.keepS hk (by simp), h.hg, h.ok⟩
theorem add_v (f f' : Ft) (a b : Int) (hb : ¬ badP f a b) (hf : goodF f a b = f') : addP f a b = (f', 0) := by rw [addP_good hb, hf]
set_option maxHeartbeats 4000000 in
theorem alive_any (w : World) : Calls Try.prog 8 #[] w (LawPost w) := by
  have A1 := Lib.hid (add_v f0 ⟨1, 0, 100, 0, 100⟩ 0 100 (by unfold badP f0; simp only; omega) rfl)
  have A2 := Lib.hid (add_v ⟨1, 0, 100, 0, 100⟩ ⟨2, 0, 100, 50, 152⟩ 50 152 (by unfold badP; simp only; omega) rfl)
  have A3 := Lib.hid (add_v ⟨2, 0, 100, 50, 152⟩ ⟨3, 0, 100, 100, 202⟩ 100 202 (by unfold badP; simp only; omega) rfl)
  go_enter Try.func8, Try.ntmps8
  go_wp2_with fail
  refine (new_any _).mono ?_
  rintro e w1 ⟨rfl, hb, hk⟩
  have F1 : Hid (FW w w1 w.heap.size f0) := Lib.hid ⟨hk, hb, Nat.le_refl _, f0_ok⟩
  clear hb hk
  go_wp2_with fail
  refine (add_any _ w.heap.size f0 _ 0 100 0 A1.out F1.out.blk F1.out.ok (by decide)).mono ?_
  rintro e w2 ⟨rfl, hb, hk⟩
  have F2 := Lib.hid (F1.out.add (by decide) A1.out hb hk)
  clear hb hk F1
  go_wp2_with fail
  refine (board_any _ w.heap.size ⟨1, 0, 100, 0, 100⟩ 5 0 12 F2.out.ok (by rfl) F2.out.blk).mono ?_
  rintro e w3 ⟨rfl, hk⟩
  have F3 := Lib.hid (F2.out.next hk)
  clear hk F2
  go_wp2_with fail
  refine (add_any _ w.heap.size ⟨1, 0, 100, 0, 100⟩ _ 50 152 0 A2.out F3.out.blk F3.out.ok (by decide)).mono ?_
  rintro e w4 ⟨rfl, hb, hk⟩
  have F4 := Lib.hid (F3.out.add (by decide) A2.out hb hk)
  clear hb hk F3
  go_wp2_with fail
  refine (add_any _ w.heap.size ⟨2, 0, 100, 50, 152⟩ _ 100 202 0 A3.out F4.out.blk F4.out.ok (by decide)).mono ?_
  rintro e w5 ⟨rfl, hb, hk⟩
  have F5 := Lib.hid (F4.out.add (by decide) A3.out hb hk)
  clear hb hk F4
  go_wp2_with fail
  refine (board_any _ w.heap.size ⟨3, 0, 100, 100, 202⟩ 25 126 0 F5.out.ok (by decide) F5.out.blk).mono ?_
  rintro e w6 ⟨rfl, hk⟩
  have F6 := Lib.hid (F5.out.next hk)
  clear hk F5
  go_wp2_with fail
  refine (ground_any _ w.heap.size ⟨3, 0, 100, 100, 202⟩ 151 50 0 F6.out.ok (by decide) F6.out.blk).mono ?_
  rintro e w7 ⟨rfl, hk⟩
  have F7 := Lib.hid (F6.out.next hk)
  clear hk F6
  go_wp2_with fail
  refine (drift_any _ w.heap.size ⟨3, 0, 100, 100, 202⟩ 20000 0 F7.out.ok (by decide) F7.out.blk).mono ?_
  rintro e w8 ⟨rfl, hk⟩
  have F8 := Lib.hid (F7.out.next hk)
  clear hk F7
  go_wp2_with fail
  refine (samples_any _ w.heap.size ⟨3, 0, 100, 100, 202⟩ F8.out.blk).mono ?_
  rintro e w' ⟨rfl, rfl⟩
  go_wp2_with fail
  go_ret
  exact ⟨rfl, F8.out.keep⟩
set_option maxHeartbeats 4000000 in
theorem none_law (w : World) (a b : Int) : Calls Try.prog 7 #[.int .i64 a, .int .i64 b] w (LawPost w) := by
  go_enter Try.func7, Try.ntmps7
  go_wp2_with fail
  refine (board_nil _ a).mono ?_
  rintro e w' ⟨rfl, rfl⟩
  go_wp2_with fail
  refine (ground_nil _ b).mono ?_
  rintro e w' ⟨rfl, rfl⟩
  go_wp2_with fail
  refine (drift_nil _).mono ?_
  rintro e w' ⟨rfl, rfl⟩
  go_wp2_with fail
  refine (add_nil _ a b).mono ?_
  rintro e w' ⟨rfl, rfl⟩
  go_wp2_with fail
  refine (samples_nil _).mono ?_
  rintro e w' ⟨rfl, rfl⟩
  go_wp2_with fail
  refine (clone_nil _).mono ?_
  rintro e w' ⟨rfl, rfl⟩
  go_wp2_with fail
  refine (alive_any _).mono ?_
  rintro e w1 ⟨rfl, hk⟩
  have K1 := Lib.hid hk
  clear hk
  go_wp2_with fail
  go_ret
  exact ⟨rfl, K1.out⟩
end Go.Proofs.Ytdckpamempejgaa
