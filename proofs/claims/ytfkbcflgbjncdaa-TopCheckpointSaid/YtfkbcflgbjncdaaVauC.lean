/- The vault: usable, Room, Open. -/
import Derived.Test.YtfkbcflgbjncdaaVauB
namespace Go.Proofs.Ytfkbcflgbjncdaa
set_option linter.unusedVariables false
set_option linter.unusedSimpArgs false
open Go.RowKit
abbrev TV : TypeId := 131
/-- the vault over the memory g, from word 0 on, of two copies of 200 words -/
def VB (w : World) (v g : Nat) : Prop := Blk w v TV #[bptr g, .int .i64 0, .int .i64 200]
theorem usable_w (w : World) (v g : Nat) (hb : VB w v g) : Calls Try.prog 60 #[bptr v] w fun e w' => e = .returned (.bool true) ∧ w = w' := by
  have h0 : w.cell? ⟨v, 0, none⟩ = some (bptr g) := hb.cell 0
  clear hb
  go_enter Try.func60, Try.ntmps60
  go_wp2_with fail
  go_ret
  exact ⟨rfl, rfl⟩
theorem room_w (w : World) (v g : Nat) (hb : VB w v g) : Calls Try.prog 22 #[bptr v] w fun e w' => e = .returned (.int .i64 788) ∧ w = w' := by
  have h2 : w.cell? ⟨v, 2, none⟩ = some (.int .i64 200) := hb.cell 2
  have HB := Lib.hid hb
  clear hb
  go_enter Try.func22, Try.ntmps22
  go_wp2_with fail
  refine (usable_w _ v g HB.out).mono ?_
  rintro e w' ⟨rfl, rfl⟩
  go_wp2_with fail
  go_ret
  exact ⟨rfl, rfl⟩
set_option maxHeartbeats 2000000 in
theorem open_w (w : World) (g a : Nat) (cl : Bool) (D C : List Nat) (h : MemC w g a cl D C) (hl : D.length = 400) : Calls Try.prog 20 #[bptr g, .int .i64 0, .int .i64 400] w fun e w' =>
    ∃ v, e = .returned (.tuple #[bptr v, .int .i64 0]) ∧ VB w' v g ∧ Keep w.heap.size [] w w' ∧ w.heap.size ≤ v := by
  have HH := Lib.hid h
  have HL := Lib.hid hl
  clear h hl
  go_enter Try.func20, Try.ntmps20
  go_wp2_with fail
  refine (read_out _ g a cl D C (-1) HH.out (.inl (by omega))).mono ?_
  rintro e w' ⟨rfl, rfl⟩
  go_wp2_with fail
  refine (size_m _ g a cl D C HH.out).mono ?_
  rw [HL.out]
  rintro e w' ⟨rfl, rfl⟩
  go_wp2_with fail
  go_ret2
  exact ⟨w.heap.size, rfl, Blk.new _ _ _, (Keep.refl _ _ _).alloc (Nat.le_refl _) _, Nat.le_refl _⟩
end Go.Proofs.Ytfkbcflgbjncdaa
