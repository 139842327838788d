/- command: table, find, Permitted. -/
import Derived.Test.YtfkbcflgbjncdaaBig
import Derived.Test.YtfkbcflgbjncdaaOctR
import Derived.Deep.DeepCutAuto
namespace Go.Proofs.Ytfkbcflgbjncdaa
set_option linter.unusedVariables false
set_option linter.unusedSimpArgs false
open Go.RowKit
/-- a service's row -/
structure Rw where
  nm : ByteArray
  args : Int
  data : Bool
  lo : Int
  hi : Int
abbrev rwcells (r : Rw) : List Value := [.string r.nm, .int .i64 r.args, .bool r.data, .int .i64 r.lo, .int .i64 r.hi]
def tblR : List Rw := [
  ⟨⟨#[]⟩, 0, false, 0, 0⟩,
  ⟨⟨#[112, 105, 110, 103]⟩, 0, false, 1, 4⟩,
  ⟨⟨#[115, 101, 116, 109, 111, 100, 101]⟩, 1, false, 1, 4⟩,
  ⟨⟨#[115, 101, 116, 112, 97, 114, 97, 109]⟩, 2, false, 1, 4⟩,
  ⟨⟨#[104, 107, 100, 101, 102, 105, 110, 101]⟩, 2, true, 1, 4⟩,
  ⟨⟨#[104, 107, 100, 101, 108, 101, 116, 101]⟩, 1, false, 1, 4⟩,
  ⟨⟨#[104, 107, 101, 110, 97, 98, 108, 101]⟩, 2, false, 1, 4⟩,
  ⟨⟨#[109, 111, 110, 101, 110, 97, 98, 108, 101]⟩, 2, false, 1, 4⟩,
  ⟨⟨#[101, 118, 101, 110, 116, 101, 110, 97, 98, 108, 101]⟩, 2, false, 1, 4⟩,
  ⟨⟨#[97, 99, 116, 97, 100, 100]⟩, 1, true, 2, 4⟩,
  ⟨⟨#[97, 99, 116, 100, 101, 108, 101, 116, 101]⟩, 1, false, 2, 4⟩,
  ⟨⟨#[97, 99, 116, 101, 110, 97, 98, 108, 101]⟩, 2, false, 2, 4⟩,
  ⟨⟨#[115, 99, 104, 101, 100, 105, 110, 115, 101, 114, 116]⟩, 2, true, 2, 4⟩,
  ⟨⟨#[115, 99, 104, 101, 100, 100, 101, 108, 101, 116, 101]⟩, 1, false, 2, 4⟩,
  ⟨⟨#[115, 99, 104, 101, 100, 115, 104, 105, 102, 116]⟩, 2, false, 2, 4⟩,
  ⟨⟨#[115, 99, 104, 101, 100, 101, 110, 97, 98, 108, 101]⟩, 2, false, 2, 4⟩,
  ⟨⟨#[115, 101, 113, 108, 111, 97, 100]⟩, 2, true, 2, 4⟩,
  ⟨⟨#[115, 101, 113, 115, 116, 97, 114, 116]⟩, 1, false, 3, 4⟩,
  ⟨⟨#[115, 101, 113, 115, 116, 111, 112]⟩, 1, false, 1, 4⟩,
  ⟨⟨#[109, 101, 109, 108, 111, 97, 100]⟩, 2, true, 1, 2⟩,
  ⟨⟨#[109, 101, 109, 100, 117, 109, 112]⟩, 2, false, 1, 4⟩,
  ⟨⟨#[109, 101, 109, 99, 104, 101, 99, 107]⟩, 2, false, 1, 4⟩,
  ⟨⟨#[102, 105, 108, 101, 115, 101, 110, 100]⟩, 1, true, 2, 4⟩,
  ⟨⟨#[102, 105, 108, 101, 100, 101, 108, 101, 116, 101]⟩, 0, true, 2, 4⟩,
  ⟨⟨#[102, 105, 108, 101, 99, 111, 110, 116, 114, 111, 108]⟩, 1, false, 1, 4⟩,
  ⟨⟨#[117, 110, 105, 116, 115, 119, 105, 116, 99, 104]⟩, 2, false, 1, 2⟩,
  ⟨⟨#[114, 101, 99, 114, 101, 112, 108, 97, 121]⟩, 3, false, 2, 4⟩,
  ⟨⟨#[114, 101, 99, 100, 101, 108, 101, 116, 101]⟩, 2, false, 2, 4⟩,
  ⟨⟨#[114, 101, 98, 111, 111, 116]⟩, 0, false, 1, 2⟩]
def tblV : Array Value := (tblR.flatMap rwcells).toArray
def tblZ : Array Value := ((List.replicate 29 (⟨⟨#[]⟩, 0, false, 0, 0⟩ : Rw)).flatMap rwcells).toArray
theorem infoTbl : (Try.prog.info? 163).map (·.size) = some tblV.size := by kernel_rfl
theorem build_tbl (w : World) : (Instr.build 163 #[(1, .agg #[.string ⟨#[112, 105, 110, 103]⟩, .int .i64 0, .bool false, .int .i64 1, .int .i64 4]), (2, .agg #[.string ⟨#[115, 101, 116, 109, 111, 100, 101]⟩, .int .i64 1, .bool false, .int .i64 1, .int .i64 4]), (3, .agg #[.string ⟨#[115, 101, 116, 112, 97, 114, 97, 109]⟩, .int .i64 2, .bool false, .int .i64 1, .int .i64 4]), (4, .agg #[.string ⟨#[104, 107, 100, 101, 102, 105, 110, 101]⟩, .int .i64 2, .bool true, .int .i64 1, .int .i64 4]), (5, .agg #[.string ⟨#[104, 107, 100, 101, 108, 101, 116, 101]⟩, .int .i64 1, .bool false, .int .i64 1, .int .i64 4]), (6, .agg #[.string ⟨#[104, 107, 101, 110, 97, 98, 108, 101]⟩, .int .i64 2, .bool false, .int .i64 1, .int .i64 4]), (7, .agg #[.string ⟨#[109, 111, 110, 101, 110, 97, 98, 108, 101]⟩, .int .i64 2, .bool false, .int .i64 1, .int .i64 4]), (8, .agg #[.string ⟨#[101, 118, 101, 110, 116, 101, 110, 97, 98, 108, 101]⟩, .int .i64 2, .bool false, .int .i64 1, .int .i64 4]), (9, .agg #[.string ⟨#[97, 99, 116, 97, 100, 100]⟩, .int .i64 1, .bool true, .int .i64 2, .int .i64 4]), (10, .agg #[.string ⟨#[97, 99, 116, 100, 101, 108, 101, 116, 101]⟩, .int .i64 1, .bool false, .int .i64 2, .int .i64 4]), (11, .agg #[.string ⟨#[97, 99, 116, 101, 110, 97, 98, 108, 101]⟩, .int .i64 2, .bool false, .int .i64 2, .int .i64 4]), (12, .agg #[.string ⟨#[115, 99, 104, 101, 100, 105, 110, 115, 101, 114, 116]⟩, .int .i64 2, .bool true, .int .i64 2, .int .i64 4]), (13, .agg #[.string ⟨#[115, 99, 104, 101, 100, 100, 101, 108, 101, 116, 101]⟩, .int .i64 1, .bool false, .int .i64 2, .int .i64 4]), (14, .agg #[.string ⟨#[115, 99, 104, 101, 100, 115, 104, 105, 102, 116]⟩, .int .i64 2, .bool false, .int .i64 2, .int .i64 4]), (15, .agg #[.string ⟨#[115, 99, 104, 101, 100, 101, 110, 97, 98, 108, 101]⟩, .int .i64 2, .bool false, .int .i64 2, .int .i64 4]), (16, .agg #[.string ⟨#[115, 101, 113, 108, 111, 97, 100]⟩, .int .i64 2, .bool true, .int .i64 2, .int .i64 4]), (17, .agg #[.string ⟨#[115, 101, 113, 115, 116, 97, 114, 116]⟩, .int .i64 1, .bool false, .int .i64 3, .int .i64 4]), (18, .agg #[.string ⟨#[115, 101, 113, 115, 116, 111, 112]⟩, .int .i64 1, .bool false, .int .i64 1, .int .i64 4]), (19, .agg #[.string ⟨#[109, 101, 109, 108, 111, 97, 100]⟩, .int .i64 2, .bool true, .int .i64 1, .int .i64 2]), (20, .agg #[.string ⟨#[109, 101, 109, 100, 117, 109, 112]⟩, .int .i64 2, .bool false, .int .i64 1, .int .i64 4]), (21, .agg #[.string ⟨#[109, 101, 109, 99, 104, 101, 99, 107]⟩, .int .i64 2, .bool false, .int .i64 1, .int .i64 4]), (22, .agg #[.string ⟨#[102, 105, 108, 101, 115, 101, 110, 100]⟩, .int .i64 1, .bool true, .int .i64 2, .int .i64 4]), (23, .agg #[.string ⟨#[102, 105, 108, 101, 100, 101, 108, 101, 116, 101]⟩, .int .i64 0, .bool true, .int .i64 2, .int .i64 4]), (24, .agg #[.string ⟨#[102, 105, 108, 101, 99, 111, 110, 116, 114, 111, 108]⟩, .int .i64 1, .bool false, .int .i64 1, .int .i64 4]), (25, .agg #[.string ⟨#[117, 110, 105, 116, 115, 119, 105, 116, 99, 104]⟩, .int .i64 2, .bool false, .int .i64 1, .int .i64 2]), (26, .agg #[.string ⟨#[114, 101, 99, 114, 101, 112, 108, 97, 121]⟩, .int .i64 3, .bool false, .int .i64 2, .int .i64 4]), (27, .agg #[.string ⟨#[114, 101, 99, 100, 101, 108, 101, 116, 101]⟩, .int .i64 2, .bool false, .int .i64 2, .int .i64 4]), (28, .agg #[.string ⟨#[114, 101, 98, 111, 111, 116]⟩, .int .i64 0, .bool false, .int .i64 1, .int .i64 2])]).run Try.prog w = .ok (.agg tblV) w := by kernel_rfl
theorem tbl_results (w : World) (tmps : Array Value) (g : Nat) (h2 : tmps.getD 0 undef = bptr g) (hb : Blk w g 163 tblV) :
    (results Try.f103 tmps).run Try.prog w = .ok (.agg tblV) w := by
  have hl := run_loadVar_mid (P := Try.prog) w g 0 163 tblV.toList _ hb.range Try.underlying163 rfl (by rw [infoTbl]; rfl)
  simp only [Array.getD_eq_getD_getElem?] at h2
  simp [results, Try.results103, h2, asAddr, hl]
set_option maxRecDepth 100000 in
set_option maxHeartbeats 4000000 in
theorem table_any (w : World) : Calls Try.prog 103 #[] w fun e w' => e = .returned (.agg tblV) ∧ Keep w.heap.size [] w w' := by
  have hb := build_tbl
  go_enter Try.func103, Try.ntmps103
  go_upto_region 1 with fail
  obtain ⟨W0, hW0⟩ : ∃ W0, W0 = w.alloc (.cells tblZ 163) := ⟨_, rfl⟩
  have B0 : Hid (Blk W0 w.heap.size 163 tblZ) := Lib.hid (by rw [hW0]; exact Blk.new w _ _)
  have K0 : Hid (Keep w.heap.size [] w W0) := Lib.hid (by rw [hW0]; exact (Keep.refl _ _ w).alloc (Nat.le_refl _) _)
  change Code.wp _ _ _ _ (w.alloc (.cells tblZ 163))
  rw [← hW0]
  clear hW0
  go_wp2_with (refine wpList_store_mid rfl 163 (.tmp 0) (.tmp 29) rfl w.heap.size 0 tblV rfl rfl (B0.out.there 0 _ (by decide +kernel)) infoTbl (by decide +kernel) ?_)
  refine bodyPost_ret (tbl_results _ _ w.heap.size rfl (B0.out.setAll (by decide +kernel))) rfl ⟨rfl, ?_⟩
  exact Keep.setCells (.inl (Nat.le_refl _)) _ _ _ K0.out
end Go.Proofs.Ytfkbcflgbjncdaa
