/- The sending end: Take, New, State, Code. -/
import Derived.Test.YtfkbcflgbjncdaaTxR
import Derived.Test.YtfkbcflgbjncdaaTxU
namespace Go.Proofs.Ytfkbcflgbjncdaa
set_option linter.unusedVariables false
set_option linter.unusedSimpArgs false
open Go.RowKit
set_option maxRecDepth 100000 in
set_option maxHeartbeats 8000000 in
theorem sack_1 (w : World) (p : Nat) (F : List Int) (c : Nat) (l : Ly) (S : Sr) (hp : S.ph = 1) (hb : Blk w p TS (scs F c l S)) : Calls Try.prog 97 #[ptr p] w fun e w' => e = .returned (.int .i64 0) ∧ Blk w' p TS (scs F c l { S with ack := true }) ∧ Keep w.heap.size [p] w w' := by
  have hpI : (S.ph : Int) = 1 := by omega
  have c10 : w.cell? ⟨p, 10, none⟩ = some (.int .i64 S.ph) := hb.cell 10
  have c16 : w.cell? ⟨p, 16, none⟩ = some (.bool S.ack) := hb.cell 16
  have fc16 := hb.frozen 16
  have HB := Lib.hid hb
  rw [hpI] at c10
  clear hb
  go_enter Try.func97, Try.ntmps97
  go_wp2_with fail
  go_ret
  exact ⟨rfl, HB.out.set_ 16 _, (Keep.refl _ _ _).set1⟩
set_option maxRecDepth 100000 in
set_option maxHeartbeats 8000000 in
theorem sack_2 (w : World) (p : Nat) (F : List Int) (c : Nat) (l : Ly) (S : Sr) (hp : 2 ≤ S.ph) (hb : Blk w p TS (scs F c l S)) : Calls Try.prog 97 #[ptr p] w fun e w' => e = .returned (.int .i64 0) ∧ w' = w := by
  have hp0 : (S.ph : Int) ≠ 0 := by omega
  have hp1 : (S.ph : Int) ≠ 1 := by omega
  have c10 : w.cell? ⟨p, 10, none⟩ = some (.int .i64 S.ph) := hb.cell 10
  clear hb
  go_enter Try.func97, Try.ntmps97
  go_wp2_with fail
  go_ret
  exact ⟨rfl, rfl⟩
set_option maxRecDepth 100000 in
set_option maxHeartbeats 8000000 in
theorem sforget_w (w : World) (p : Nat) (F : List Int) (c : Nat) (l : Ly) (S : Sr) (hb : Blk w p TS (scs F c l S)) : Calls Try.prog 137 #[ptr p] w fun e w' => e = .returned (.tuple #[]) ∧ Blk w' p TS (scs F c ⟨l.D, l.dc, none, 0⟩ { S with me := false, wd := [] }) ∧ Keep w.heap.size [p] w w' := by
  have c14 : w.cell? ⟨p, 14, none⟩ = some (.bool S.me) := hb.cell 14
  have c15 : w.cell? ⟨p, 15, none⟩ = some (.slice l.W S.wd.length l.wc) := hb.cell 15
  have fc14 := hb.frozen 14
  have fc15 := hb.frozen 15
  have HB := Lib.hid hb
  clear hb
  go_enter Try.func137, Try.ntmps137
  go_wp2_with fail
  go_end0
  exact ⟨rfl, (HB.out.set_ 14 _).set_ 15 _, ((Keep.refl _ _ _).set1).set1⟩
set_option maxRecDepth 100000 in
set_option maxHeartbeats 8000000 in
theorem sfin_1 (w : World) (p : Nat) (F : List Int) (c : Nat) (l : Ly) (S : Sr) (hp : S.ph = 1) (hb : Blk w p TS (scs F c l S)) : Calls Try.prog 99 #[ptr p, .int .i64 0] w fun e w' => e = .returned (.tuple #[]) ∧ Blk w' p TS (scs F c ⟨l.D, l.dc, none, 0⟩ { S with ph := 2, me := false, wd := [], due := true }) ∧ Keep w.heap.size [p] w w' := by
  have hpI : (S.ph : Int) = 1 := by omega
  have c10 : w.cell? ⟨p, 10, none⟩ = some (.int .i64 S.ph) := hb.cell 10
  have c20 : w.cell? ⟨p, 20, none⟩ = some (.int .i64 0) := hb.cell 20
  have c19 : w.cell? ⟨p, 19, none⟩ = some (.bool S.due) := hb.cell 19
  have fc10 := hb.frozen 10
  have fc20 := hb.frozen 20
  have HB := Lib.hid hb
  rw [hpI] at c10
  clear hb
  go_enter Try.func99, Try.ntmps99
  go_wp2_with fail
  have BP1 : Hid (Blk ((w.setCell ⟨p, 10, none⟩ (.int .i64 2)).setCell ⟨p, 20, none⟩ (.int .i64 0)) p TS (scs F c l { S with ph := 2 })) := Lib.hid ((HB.out.set_ 10 _).set_ 20 _)
  have K1 : Hid (Keep w.heap.size [p] w ((w.setCell ⟨p, 10, none⟩ (.int .i64 2)).setCell ⟨p, 20, none⟩ (.int .i64 0))) := Lib.hid (((Keep.refl _ _ _).set1).set1)
  refine (sforget_w _ p F c l { S with ph := 2 } BP1.out).mono ?_
  rintro e W2 ⟨rfl, hb2, hk2⟩
  have z19 : W2.cell? ⟨p, 19, none⟩ = some (.bool S.due) := hb2.cell 19
  have z19f := hb2.frozen 19
  have BP2 := Lib.hid hb2
  have K2 : Hid (Keep w.heap.size [p] w W2) := Lib.hid (K1.out.trans (hk2.mono K1.out.size (by simp)))
  clear hb2 hk2
  go_wp2_with fail
  go_end0
  exact ⟨rfl, BP2.out.set_ 19 _, K2.out.set1⟩
set_option maxRecDepth 100000 in
set_option maxHeartbeats 8000000 in
theorem sfin_2 (w : World) (p : Nat) (F : List Int) (c : Nat) (l : Ly) (S : Sr) (hp : S.ph = 2) (hb : Blk w p TS (scs F c l S)) : Calls Try.prog 99 #[ptr p, .int .i64 0] w fun e w' => e = .returned (.tuple #[]) ∧ w' = w := by
  have hpI : (S.ph : Int) = 2 := by omega
  have c10 : w.cell? ⟨p, 10, none⟩ = some (.int .i64 S.ph) := hb.cell 10
  rw [hpI] at c10
  clear hb
  go_enter Try.func99, Try.ntmps99
  go_wp2_with fail
  refine bodyPost_ret (results_none rfl _ _ _) rfl ?_
  exact ⟨rfl, rfl⟩
set_option maxRecDepth 100000 in
set_option maxHeartbeats 8000000 in
theorem sfin_4 (w : World) (p : Nat) (F : List Int) (c : Nat) (l : Ly) (S : Sr) (hp : S.ph = 4) (hb : Blk w p TS (scs F c l S)) : Calls Try.prog 99 #[ptr p, .int .i64 0] w fun e w' => e = .returned (.tuple #[]) ∧ Blk w' p TS (scs F c l { S with due := true }) ∧ Keep w.heap.size [p] w w' := by
  have hpI : (S.ph : Int) = 4 := by omega
  have c10 : w.cell? ⟨p, 10, none⟩ = some (.int .i64 S.ph) := hb.cell 10
  have c19 : w.cell? ⟨p, 19, none⟩ = some (.bool S.due) := hb.cell 19
  have fc19 := hb.frozen 19
  have HB := Lib.hid hb
  rw [hpI] at c10
  clear hb
  go_enter Try.func99, Try.ntmps99
  go_wp2_with fail
  go_end0
  exact ⟨rfl, HB.out.set_ 19 _, (Keep.refl _ _ _).set1⟩
set_option maxRecDepth 100000 in
set_option maxHeartbeats 8000000 in
theorem sstate_w (w : World) (p : Nat) (F : List Int) (c : Nat) (l : Ly) (S : Sr) (hp : S.ph = 4) (hb : Blk w p TS (scs F c l S)) : Calls Try.prog 36 #[ptr p] w fun e w' => e = .returned (.int .i64 4) ∧ w' = w := by
  have hpI : (S.ph : Int) = 4 := by omega
  have c10 : w.cell? ⟨p, 10, none⟩ = some (.int .i64 S.ph) := hb.cell 10
  have c11 : w.cell? ⟨p, 11, none⟩ = some (.bool false) := hb.cell 11
  have HB := Lib.hid hb
  rw [hpI] at c10
  clear hb
  go_enter Try.func36, Try.ntmps36
  go_wp2_with fail
  refine (sok_w _ p F c l S HB.out).mono ?_
  rintro e w1 ⟨rfl, rfl⟩
  go_wp2_with fail
  go_ret
  exact ⟨rfl, rfl⟩
set_option maxRecDepth 100000 in
set_option maxHeartbeats 8000000 in
theorem scode_w (w : World) (p : Nat) (F : List Int) (c : Nat) (l : Ly) (S : Sr) (hb : Blk w p TS (scs F c l S)) : Calls Try.prog 37 #[ptr p] w fun e w' => e = .returned (.int .i64 0) ∧ w' = w := by
  have c20 : w.cell? ⟨p, 20, none⟩ = some (.int .i64 0) := hb.cell 20
  have HB := Lib.hid hb
  clear hb
  go_enter Try.func37, Try.ntmps37
  go_wp2_with fail
  refine (sok_w _ p F c l S HB.out).mono ?_
  rintro e w1 ⟨rfl, rfl⟩
  go_wp2_with fail
  go_ret
  exact ⟨rfl, rfl⟩
set_option maxRecDepth 100000 in
set_option maxHeartbeats 8000000 in
theorem sreq_2 (w : World) (p : Nat) (F : List Int) (c : Nat) (l : Ly) (S : Sr) (G : Option Addr) (m gc : Nat) (GL : List Gp) (hm : m ≤ 100) (hgc : m ≤ gc ∧ gc ≤ maxLen) (hn : F.length ≤ 300) (hg : Vw w G m 2 (gcs GL)) (hgb : ∀ g ∈ GL, 0 ≤ g.f ∧ g.t ≤ (F.length : Int)) (hp : S.ph = 2 ∨ S.ph = 4) (hb : Blk w p TS (scs F c l S)) : Calls Try.prog 98 #[ptr p, .slice G m gc] w fun e w' => e = .returned (.int .i64 0) ∧ Keep w.heap.size [] w w' := by
  have hpI : (S.ph : Int) = 2 ∨ (S.ph : Int) = 4 := by omega
  have hml : m = GL.length := by have := hg.1; rw [gcells_len] at this; omega
  have hcapI : (m : Int) ≤ (gc : Int) := by omega
  have hml2 : m ≤ 100 := hm
  have c5 : w.cell? ⟨p, 5, none⟩ = some (.slice l.D F.length l.dc) := hb.cell 5
  have c10 : w.cell? ⟨p, 10, none⟩ = some (.int .i64 S.ph) := hb.cell 10
  have HB := Lib.hid hb
  have HG := Lib.hid hg
  have HGB := Lib.hid hgb
  have HML := Lib.hid hml
  clear hb hg hgb hml
  go_enter Try.func98, Try.ntmps98
  go_wp2_with fail
  go_loopw [11] (fun jj wr => ∃ (k : Nat), k ≤ m ∧ jj = .int .i64 k ∧ Keep w.heap.size [] w wr) (fun jj _ => m - (intOf jj).toNat)
  case atStart => exact ⟨0, Nat.zero_le _, rfl, Keep.refl _ _ _⟩
  case round =>
    obtain ⟨k, hk, rfl, hkw⟩ := hrel
    have KW := Lib.hid hkw
    have BPr := Lib.hid (HB.out.keepS hkw (by simp))
    clear hkw
    by_cases hlt : k < m
    · have hki : (k : Int) < (m : Int) := by omega
      obtain ⟨b2, o', g, rfl, hgk, d0, d1⟩ := gap_at (HG.out.keep0 KW.out) hlt
      have hgt := (HGB.out g (List.mem_of_getElem? hgk)).2
      clear hgk
      go_upto_region 4 with fail
      obtain ⟨W1, hW1⟩ : ∃ W, W = wr.alloc (.cells #[.int .i64 g.f, .int .i64 g.t] TG) := ⟨_, rfl⟩
      obtain ⟨q, hq⟩ : ∃ q, q = wr.heap.size := ⟨_, rfl⟩
      have bp : Blk W1 p TS (scs F c l S) := by rw [hW1]; exact BPr.out.alloc _
      have bq : Blk W1 q TG #[.int .i64 g.f, .int .i64 g.t] := by rw [hW1, hq]; exact Blk.new _ _ _
      have K1 : Hid (Keep w.heap.size [] w W1) := Lib.hid (by rw [hW1]; exact KW.out.alloc KW.out.size _)
      have z5 : W1.cell? ⟨p, 5, none⟩ = some (.slice l.D F.length l.dc) := bp.cell 5
      have z1 : W1.cell? ⟨q, 1, none⟩ = some (.int .i64 g.t) := bq.cell 1
      change Code.wp _ _ _ _ (wr.alloc (.cells #[.int .i64 g.f, .int .i64 g.t] TG))
      rw [← hW1, ← hq]
      clear hW1 hq bp bq c5 c10
      go_quiet (fail)
      go_wp2_with fail
      go_roundw
      case rel => exact ⟨k + 1, by omega, by go_num, K1.out.drewN _⟩
      case measure => simp [intOf] <;> omega
    · obtain rfl : m = k := by omega
      have r10 : wr.cell? ⟨p, 10, none⟩ = some (.int .i64 S.ph) := BPr.out.cell 10
      clear c5 c10
      rcases hpI with hpI | hpI
      · rw [hpI] at r10
        go_wp2_with fail
        go_ret
        exact ⟨rfl, KW.out⟩
      · rw [hpI] at r10
        go_wp2_with fail
        go_ret
        exact ⟨rfl, KW.out⟩
def anyZ0 (GL : List Gp) : Bool := GL.any fun g => decide (g.f = 0 ∧ g.t = 0)
theorem anyZ0_step {GL : List Gp} {k : Nat} {g : Gp} (h : GL[k]? = some g) : anyZ0 (GL.take (k + 1)) = (anyZ0 (GL.take k) || decide (g.f = 0 ∧ g.t = 0)) := by
  unfold anyZ0
  rw [List.take_add_one, h]
  simp
def RqPost (w : World) (p : Nat) (F : List Int) (c : Nat) (l : Ly) (S : Sr) (GL : List Gp) (e : Ending) (w' : World) : Prop :=
  ∃ N Y yc, e = .returned (.int .i64 0) ∧ Nrm N ∧ (∀ z, mem N z ↔ mem S.wd z ∨ mem GL z) ∧ Blk w' p TS (scs F c ⟨l.D, l.dc, Y, yc⟩ { S with me := S.me || anyZ0 GL, wd := N, tm := S.now, tr := 0 }) ∧ Vw w' Y N.length 2 (gcs N) ∧ (N.length ≤ yc ∧ yc ≤ maxLen) ∧ p ∉ blks Y ∧ (N ≠ [] → ∀ y, y ∈ blks Y → (S.wd ≠ [] ∧ y ∈ blks l.W) ∨ w.heap.size ≤ y) ∧ Keep w.heap.size [p] w w'
set_option maxRecDepth 100000 in
set_option maxHeartbeats 8000000 in
theorem sreq_1 (w : World) (p : Nat) (F : List Int) (c : Nat) (l : Ly) (S : Sr) (G : Option Addr) (m gc : Nat) (GL : List Gp) (hm : m ≤ 100) (hgc : m ≤ gc ∧ gc ≤ maxLen) (hn : F.length ≤ 300) (hg : Vw w G m 2 (gcs GL)) (hgb : ∀ g ∈ GL, 0 ≤ g.f ∧ g.t ≤ (F.length : Int)) (hwn : Nrm S.wd) (hwi : ∀ z, mem S.wd z → 0 ≤ z ∧ z < (F.length : Int)) (hwv : Vw w l.W S.wd.length 2 (gcs S.wd)) (hwc : S.wd.length ≤ l.wc ∧ l.wc ≤ maxLen) (hnW : p ∉ blks l.W) (hnG : p ∉ blks G) (hp : S.ph = 1) (hb : Blk w p TS (scs F c l S)) : Calls Try.prog 98 #[ptr p, .slice G m gc] w fun e w' => RqPost w p F c l S GL e w' := by
  have HWN := Lib.hid hwn
  have HWI := Lib.hid hwi
  have HWV := Lib.hid hwv
  have HWC := Lib.hid hwc
  have HNW := Lib.hid hnW
  have hpI : (S.ph : Int) = 1 := by omega
  clear hwn hwi hwv hwc hnW
  have hml : m = GL.length := by have := hg.1; rw [gcells_len] at this; omega
  have hcapI : (m : Int) ≤ (gc : Int) := by omega
  have hml2 : m ≤ 100 := hm
  have c5 : w.cell? ⟨p, 5, none⟩ = some (.slice l.D F.length l.dc) := hb.cell 5
  have c10 : w.cell? ⟨p, 10, none⟩ = some (.int .i64 S.ph) := hb.cell 10
  have HB := Lib.hid hb
  have HG := Lib.hid hg
  have HGB := Lib.hid hgb
  have HML := Lib.hid hml
  clear hb hg hgb hml
  go_enter Try.func98, Try.ntmps98
  go_wp2_with fail
  go_loopw [11] (fun jj wr => ∃ (k : Nat), k ≤ m ∧ jj = .int .i64 k ∧ Keep w.heap.size [] w wr) (fun jj _ => m - (intOf jj).toNat)
  case atStart => exact ⟨0, Nat.zero_le _, rfl, Keep.refl _ _ _⟩
  case round =>
    obtain ⟨k, hk, rfl, hkw⟩ := hrel
    have KW := Lib.hid hkw
    have BPr := Lib.hid (HB.out.keepS hkw (by simp))
    clear hkw
    by_cases hlt : k < m
    · have hki : (k : Int) < (m : Int) := by omega
      obtain ⟨b2, o', g, rfl, hgk, d0, d1⟩ := gap_at (HG.out.keep0 KW.out) hlt
      have hgt := (HGB.out g (List.mem_of_getElem? hgk)).2
      clear hgk
      go_upto_region 4 with fail
      obtain ⟨W1, hW1⟩ : ∃ W, W = wr.alloc (.cells #[.int .i64 g.f, .int .i64 g.t] TG) := ⟨_, rfl⟩
      obtain ⟨q, hq⟩ : ∃ q, q = wr.heap.size := ⟨_, rfl⟩
      have bp : Blk W1 p TS (scs F c l S) := by rw [hW1]; exact BPr.out.alloc _
      have bq : Blk W1 q TG #[.int .i64 g.f, .int .i64 g.t] := by rw [hW1, hq]; exact Blk.new _ _ _
      have K1 : Hid (Keep w.heap.size [] w W1) := Lib.hid (by rw [hW1]; exact KW.out.alloc KW.out.size _)
      have z5 : W1.cell? ⟨p, 5, none⟩ = some (.slice l.D F.length l.dc) := bp.cell 5
      have z1 : W1.cell? ⟨q, 1, none⟩ = some (.int .i64 g.t) := bq.cell 1
      change Code.wp _ _ _ _ (wr.alloc (.cells #[.int .i64 g.f, .int .i64 g.t] TG))
      rw [← hW1, ← hq]
      clear hW1 hq bp bq c5 c10
      go_quiet (fail)
      go_wp2_with fail
      go_roundw
      case rel => exact ⟨k + 1, by omega, by go_num, K1.out.drewN _⟩
      case measure => simp [intOf] <;> omega
    · obtain rfl : m = k := by omega
      have r10 : wr.cell? ⟨p, 10, none⟩ = some (.int .i64 S.ph) := BPr.out.cell 10
      clear c5 c10
      rw [hpI] at r10
      have VWr := Lib.hid (HWV.out.keep0 KW.out)
      go_wp2_with fail
      go_loopw [38] (fun jj wx => ∃ (k : Nat) (me : Bool) (N : List Gp) (Y : Option Addr) (yc : Nat), k ≤ m ∧ jj = .int .i64 k ∧ Blk wx p TS (scs F c ⟨l.D, l.dc, Y, yc⟩ { S with me := me, wd := N }) ∧ Vw wx Y N.length 2 (gcs N) ∧ (N.length ≤ yc ∧ yc ≤ maxLen) ∧ Nrm N ∧ (∀ z, mem N z ↔ mem S.wd z ∨ mem (GL.take k) z) ∧ me = (S.me || anyZ0 (GL.take k)) ∧ p ∉ blks Y ∧ (N ≠ [] → ∀ y, y ∈ blks Y → (S.wd ≠ [] ∧ y ∈ blks l.W) ∨ w.heap.size ≤ y) ∧ Keep w.heap.size [p] w wx) (fun jj _ => m - (intOf jj).toNat)
      case atStart => exact ⟨0, S.me, S.wd, l.W, l.wc, Nat.zero_le _, rfl, BPr.out, VWr.out, HWC.out, HWN.out, (fun z => by simp [mem_nil]), by simp [anyZ0], HNW.out, (fun hN y hy => .inl ⟨hN, hy⟩), KW.out.mono (Nat.le_refl _) (by simp)⟩
      case round =>
        clear r10
        obtain ⟨k, me, N, Y, yc, hk, rfl, hbx, hvx, hcx, hnx, hmx, hme, hyx, hfx, hkx⟩ := hrel
        have hNl : N.length ≤ 300 := by
          have := nrm_len (a := 0) (N := (F.length : Int)) hnx (fun z hz => by
            rcases (hmx z).1 hz with h | ⟨g, hgm, h1, h2⟩
            · exact HWI.out z h
            · have := HGB.out g (List.mem_of_mem_take hgm)
              omega) (by omega)
          omega
        have NX := Lib.hid hnx
        have ME := Lib.hid hmx
        have MX := Lib.hid hme
        have YX := Lib.hid hyx
        have FX := Lib.hid hfx
        have KX := Lib.hid hkx
        have BX := Lib.hid hbx
        have VX := Lib.hid hvx
        have CX := Lib.hid hcx
        by_cases hlt : k < m
        · have hki : (k : Int) < (m : Int) := by omega
          obtain ⟨b2, o', g, rfl, hgk, d0, d1⟩ := gap_at (HG.out.keepS hkx (fun g hg hm => hnG (by rw [← List.mem_singleton.1 hm]; exact hg))) hlt
          have HGK := Lib.hid hgk
          obtain ⟨W1, hW1⟩ : ∃ W, W = wr.alloc (.cells #[.int .i64 g.f, .int .i64 g.t] TG) := ⟨_, rfl⟩
          obtain ⟨q, hq⟩ : ∃ q, q = wr.heap.size := ⟨_, rfl⟩
          have bp := hbx.alloc (.cells #[.int .i64 g.f, .int .i64 g.t] TG)
          rw [← hW1] at bp
          have bq : Blk W1 q TG #[.int .i64 g.f, .int .i64 g.t] := by rw [hW1, hq]; exact Blk.new _ _ _
          have ka : Keep wr.heap.size [] wr W1 := by rw [hW1]; exact (Keep.refl _ _ _).alloc (Nat.le_refl _) _
          have K1 : Hid (Keep w.heap.size [p] w W1) := Lib.hid (hkx.trans (ka.mono hkx.size (by simp)))
          have VW1 := Lib.hid (hvx.keep0 ka)
          have BP1 := Lib.hid bp
          have BG1 := Lib.hid bq
          have hqp : q ≠ p := by have := hbx.lt; omega
          have hpq : p ≠ q := hqp.symm
          have z14 : W1.cell? ⟨p, 14, none⟩ = some (.bool me) := bp.cell 14
          have z14f := bp.frozen 14
          have g0 : W1.cell? ⟨q, 0, none⟩ = some (.int .i64 g.f) := bq.cell 0
          have g1 : W1.cell? ⟨q, 1, none⟩ = some (.int .i64 g.t) := bq.cell 1
          clear hbx hvx hcx hnx hmx hme hyx hfx hkx hgk ka bp bq
          go_upto_region 12 with fail
          change Code.wp _ _ _ _ (wr.alloc (.cells #[.int .i64 g.f, .int .i64 g.t] TG))
          rw [← hW1, ← hq]
          clear hW1 hq d0 d1
          go_wp2_with fail
          · have HZ : Hid (g.f = 0 ∧ g.t = 0) := Lib.hid (by omega)
            go_roundw
            case rel =>
              refine ⟨k + 1, true, N, Y, yc, by omega, by go_num, BP1.out.set_ 14 _, VW1.out.far _ YX.out, CX.out, NX.out, fun z => ?_, ?_, YX.out, FX.out, K1.out.set1⟩
              · rw [ME.out, mem_step HGK.out, HZ.out.1, HZ.out.2]
                constructor
                · rintro (h | h)
                  · exact .inl h
                  · exact .inr (.inl h)
                · rintro (h | h | h)
                  · exact .inl h
                  · exact .inr h
                  · omega
              · rw [anyZ0_step HGK.out, decide_eq_true HZ.out]; simp
            case measure => simp [intOf] <;> omega
          · have HZ : Hid (¬ (g.f = 0 ∧ g.t = 0)) := Lib.hid (by omega)
            rename_i h1 h2
            clear h1 h2
            go_upto_region 14 with fail
            have y0 : W1.drew.cell? ⟨p, 15, none⟩ = some (.slice Y N.length yc) ∧ W1.drew.cell? ⟨q, 0, none⟩ = some (.int .i64 g.f) ∧ W1.drew.cell? ⟨q, 1, none⟩ = some (.int .i64 g.t) := ⟨BP1.out.cell 15, BG1.out.cell 0, BG1.out.cell 1⟩
            refine region_anyZ 9 (S := (fun w' => w'.cell? ⟨p, 15, none⟩ = some (.slice Y N.length yc) ∧ w'.cell? ⟨q, 0, none⟩ = some (.int .i64 g.f) ∧ w'.cell? ⟨q, 1, none⟩ = some (.int .i64 g.t))) (by kernel_rfl) (by exact y0) (fun hHeld => ?_)
            refine tkZ (i := 0) (oi := { dst := some 48, op := Op.move (Operand.tmp 0), type := 76, pos := _, after := _, guard := none }) rfl hHeld ?_
            (try simp only [Act.put, List.setIfInBounds_toArray, List.set_cons_zero, List.set_cons_succ])
            refine tkZ (i := 1) (oi := { dst := some 49, op := Op.move (Operand.tmp 0), type := 76, pos := _, after := _, guard := none }) rfl hHeld ?_
            (try simp only [Act.put, List.setIfInBounds_toArray, List.set_cons_zero, List.set_cons_succ])
            refine tkZ (i := 2) (oi := { dst := some 50, op := Op.nilCheck (Operand.tmp 49), type := 0, pos := _, after := _, guard := none }) rfl hHeld ?_
            (try simp only [Act.put, List.setIfInBounds_toArray, List.set_cons_zero, List.set_cons_succ])
            refine tkZ (i := 3) (oi := { dst := some 51, op := Op.fieldAddr 148 (Operand.tmp 50) 12, type := 0, pos := _, after := _, guard := none }) rfl hHeld ?_
            (try simp only [Act.put, List.setIfInBounds_toArray, List.set_cons_zero, List.set_cons_succ])
            refine tkZ (i := 4) (oi := { dst := some 52, op := Op.load 83 (Operand.tmp 51), type := 83, pos := _, after := _, guard := none }) rfl hHeld ?_
            (try simp only [Act.put, List.setIfInBounds_toArray, List.set_cons_zero, List.set_cons_succ])
            refine tkZ (i := 5) (oi := { dst := some 53, op := Op.load 158 (Operand.tmp 8), type := 158, pos := _, after := _, guard := none }) rfl hHeld ?_
            (try simp only [Act.put, List.setIfInBounds_toArray, List.set_cons_zero, List.set_cons_succ])
            refine anyZ.ready (rs := [6]) (by kernel_rfl) (by simp) ?_
            refine (AllZ.cons (o := { dst := some 54, op := Op.call { callee := Callee.value (Operand.func 136), args := #[Operand.tmp 52, Operand.tmp 53], argTypes := #[83, 158] }, type := 83, pos := _, after := _, guard := none }) rfl (fun K hK => ?_) AllZ.nil)
            go_simp
            refine (add_w _ Y N.length yc N g (by omega) (by exact VW1.out.drew)).mono ?_
            rintro e W3 ⟨Y3, yc3, N3, rfl, hs3, hn3, hm3, hl3, hk3, hb3⟩
            have S3 := Lib.hid hs3
            have N3H := Lib.hid hn3
            have M3 := Lib.hid hm3
            have B3 : Hid (∀ y, y ∈ blks Y3 → W1.heap.size ≤ y) := Lib.hid hb3
            have BP3 := Lib.hid (BP1.out.drew.keepS hk3 (by simp))
            have BG3 := Lib.hid (BG1.out.drew.keepS hk3 (by simp))
            have K3 : Hid (Keep w.heap.size [p] w W3) := Lib.hid (K1.out.drew.trans (hk3.mono K1.out.drew.size (by simp)))
            have z15 : W3.cell? ⟨p, 15, none⟩ = some (.slice Y N.length yc) := BP3.out.cell 15
            have z15f := BP3.out.frozen 15
            have y1 : W3.cell? ⟨p, 15, none⟩ = some (.slice Y N.length yc) ∧ W3.cell? ⟨q, 0, none⟩ = some (.int .i64 g.f) ∧ W3.cell? ⟨q, 1, none⟩ = some (.int .i64 g.t) := ⟨z15, BG3.out.cell 0, BG3.out.cell 1⟩
            clear hs3 hn3 hm3 hl3 hk3 hb3 y0 g0 g1 z14 z14f
            refine hK.out _ _ (fun _ => (by exact y1)) (fun hHeld => ?_)
            clear hK K
            replace hHeld := hHeld (by kernel_rfl)
            (try simp only [Act.put, List.setIfInBounds_toArray, List.set_cons_zero, List.set_cons_succ])
            refine anyZ.takeU (i := 7) (oi := { dst := some 55, op := Op.nilCheck (Operand.tmp 48), type := 0, pos := _, after := _, guard := none }) (v := _) rfl (by decide) (by kernel_rfl) (by kernel_rfl) (by kernel_rfl) (fun _ _ _ h => h) (Or.inl ⟨by rfl, by (intro wS hSw; (try dsimp only at hSw); go_simp; try with_reducible rfl)⟩) (by exact hHeld) ?_
            (try simp only [Act.put, List.setIfInBounds_toArray, List.set_cons_zero, List.set_cons_succ])
            refine tkZ (i := 8) (oi := { dst := some 56, op := Op.fieldAddr 148 (Operand.tmp 55) 12, type := 0, pos := _, after := _, guard := none }) rfl hHeld ?_
            (try simp only [Act.put, List.setIfInBounds_toArray, List.set_cons_zero, List.set_cons_succ])
            refine anyZ.ready (rs := [9]) (by kernel_rfl) (by simp) ?_
            refine (AllZ.cons (o := { dst := none, op := Op.store 83 (Operand.tmp 56) (Operand.tmp 54), type := 0, pos := _, after := _, guard := none }) rfl (fun K hK => ?_) AllZ.nil)
            go_simp
            refine hK.out _ _ (fun h => absurd h (by decide)) (fun hHeld => ?_)
            clear hK K
            (try simp only [Act.put, List.setIfInBounds_toArray, List.set_cons_zero, List.set_cons_succ])
            refine anyZ.done (by kernel_rfl) ?_ _
            clear hHeld
            go_wp2_with fail
            go_roundw
            case rel =>
              refine ⟨k + 1, me, N3, Y3, yc3, by omega, by go_num, BP3.out.set_ 15 _, (S3.out.far _ (fun hm => by have := B3.out _ hm; have := BP1.out.lt; simp only at *; omega)).vw (by omega), S3.out.cap, N3H.out, fun z => ?_, ?_, fun hm => by have := B3.out _ hm; have := BP1.out.lt; omega, fun _ y hy => .inr (Nat.le_trans K1.out.size (B3.out y hy)), K3.out.set1⟩
              · refine (M3.out z).trans ?_
                show mem N z ∨ _ ↔ _
                rw [ME.out, mem_step HGK.out, or_assoc]
              · rw [anyZ0_step HGK.out, MX.out, decide_eq_false HZ.out]; simp
            case measure => simp [intOf] <;> omega
          · have HZ : Hid (¬ (g.f = 0 ∧ g.t = 0)) := Lib.hid (by omega)
            rename_i h1
            clear h1
            go_upto_region 14 with fail
            have y0 : W1.drew.cell? ⟨p, 15, none⟩ = some (.slice Y N.length yc) ∧ W1.drew.cell? ⟨q, 0, none⟩ = some (.int .i64 g.f) ∧ W1.drew.cell? ⟨q, 1, none⟩ = some (.int .i64 g.t) := ⟨BP1.out.cell 15, BG1.out.cell 0, BG1.out.cell 1⟩
            refine region_anyZ 9 (S := (fun w' => w'.cell? ⟨p, 15, none⟩ = some (.slice Y N.length yc) ∧ w'.cell? ⟨q, 0, none⟩ = some (.int .i64 g.f) ∧ w'.cell? ⟨q, 1, none⟩ = some (.int .i64 g.t))) (by kernel_rfl) (by exact y0) (fun hHeld => ?_)
            refine tkZ (i := 0) (oi := { dst := some 48, op := Op.move (Operand.tmp 0), type := 76, pos := _, after := _, guard := none }) rfl hHeld ?_
            (try simp only [Act.put, List.setIfInBounds_toArray, List.set_cons_zero, List.set_cons_succ])
            refine tkZ (i := 1) (oi := { dst := some 49, op := Op.move (Operand.tmp 0), type := 76, pos := _, after := _, guard := none }) rfl hHeld ?_
            (try simp only [Act.put, List.setIfInBounds_toArray, List.set_cons_zero, List.set_cons_succ])
            refine tkZ (i := 2) (oi := { dst := some 50, op := Op.nilCheck (Operand.tmp 49), type := 0, pos := _, after := _, guard := none }) rfl hHeld ?_
            (try simp only [Act.put, List.setIfInBounds_toArray, List.set_cons_zero, List.set_cons_succ])
            refine tkZ (i := 3) (oi := { dst := some 51, op := Op.fieldAddr 148 (Operand.tmp 50) 12, type := 0, pos := _, after := _, guard := none }) rfl hHeld ?_
            (try simp only [Act.put, List.setIfInBounds_toArray, List.set_cons_zero, List.set_cons_succ])
            refine tkZ (i := 4) (oi := { dst := some 52, op := Op.load 83 (Operand.tmp 51), type := 83, pos := _, after := _, guard := none }) rfl hHeld ?_
            (try simp only [Act.put, List.setIfInBounds_toArray, List.set_cons_zero, List.set_cons_succ])
            refine tkZ (i := 5) (oi := { dst := some 53, op := Op.load 158 (Operand.tmp 8), type := 158, pos := _, after := _, guard := none }) rfl hHeld ?_
            (try simp only [Act.put, List.setIfInBounds_toArray, List.set_cons_zero, List.set_cons_succ])
            refine anyZ.ready (rs := [6]) (by kernel_rfl) (by simp) ?_
            refine (AllZ.cons (o := { dst := some 54, op := Op.call { callee := Callee.value (Operand.func 136), args := #[Operand.tmp 52, Operand.tmp 53], argTypes := #[83, 158] }, type := 83, pos := _, after := _, guard := none }) rfl (fun K hK => ?_) AllZ.nil)
            go_simp
            refine (add_w _ Y N.length yc N g (by omega) (by exact VW1.out.drew)).mono ?_
            rintro e W3 ⟨Y3, yc3, N3, rfl, hs3, hn3, hm3, hl3, hk3, hb3⟩
            have S3 := Lib.hid hs3
            have N3H := Lib.hid hn3
            have M3 := Lib.hid hm3
            have B3 : Hid (∀ y, y ∈ blks Y3 → W1.heap.size ≤ y) := Lib.hid hb3
            have BP3 := Lib.hid (BP1.out.drew.keepS hk3 (by simp))
            have BG3 := Lib.hid (BG1.out.drew.keepS hk3 (by simp))
            have K3 : Hid (Keep w.heap.size [p] w W3) := Lib.hid (K1.out.drew.trans (hk3.mono K1.out.drew.size (by simp)))
            have z15 : W3.cell? ⟨p, 15, none⟩ = some (.slice Y N.length yc) := BP3.out.cell 15
            have z15f := BP3.out.frozen 15
            have y1 : W3.cell? ⟨p, 15, none⟩ = some (.slice Y N.length yc) ∧ W3.cell? ⟨q, 0, none⟩ = some (.int .i64 g.f) ∧ W3.cell? ⟨q, 1, none⟩ = some (.int .i64 g.t) := ⟨z15, BG3.out.cell 0, BG3.out.cell 1⟩
            clear hs3 hn3 hm3 hl3 hk3 hb3 y0 g0 g1 z14 z14f
            refine hK.out _ _ (fun _ => (by exact y1)) (fun hHeld => ?_)
            clear hK K
            replace hHeld := hHeld (by kernel_rfl)
            (try simp only [Act.put, List.setIfInBounds_toArray, List.set_cons_zero, List.set_cons_succ])
            refine anyZ.takeU (i := 7) (oi := { dst := some 55, op := Op.nilCheck (Operand.tmp 48), type := 0, pos := _, after := _, guard := none }) (v := _) rfl (by decide) (by kernel_rfl) (by kernel_rfl) (by kernel_rfl) (fun _ _ _ h => h) (Or.inl ⟨by rfl, by (intro wS hSw; (try dsimp only at hSw); go_simp; try with_reducible rfl)⟩) (by exact hHeld) ?_
            (try simp only [Act.put, List.setIfInBounds_toArray, List.set_cons_zero, List.set_cons_succ])
            refine tkZ (i := 8) (oi := { dst := some 56, op := Op.fieldAddr 148 (Operand.tmp 55) 12, type := 0, pos := _, after := _, guard := none }) rfl hHeld ?_
            (try simp only [Act.put, List.setIfInBounds_toArray, List.set_cons_zero, List.set_cons_succ])
            refine anyZ.ready (rs := [9]) (by kernel_rfl) (by simp) ?_
            refine (AllZ.cons (o := { dst := none, op := Op.store 83 (Operand.tmp 56) (Operand.tmp 54), type := 0, pos := _, after := _, guard := none }) rfl (fun K hK => ?_) AllZ.nil)
            go_simp
            refine hK.out _ _ (fun h => absurd h (by decide)) (fun hHeld => ?_)
            clear hK K
            (try simp only [Act.put, List.setIfInBounds_toArray, List.set_cons_zero, List.set_cons_succ])
            refine anyZ.done (by kernel_rfl) ?_ _
            clear hHeld
            go_wp2_with fail
            go_roundw
            case rel =>
              refine ⟨k + 1, me, N3, Y3, yc3, by omega, by go_num, BP3.out.set_ 15 _, (S3.out.far _ (fun hm => by have := B3.out _ hm; have := BP1.out.lt; simp only at *; omega)).vw (by omega), S3.out.cap, N3H.out, fun z => ?_, ?_, fun hm => by have := B3.out _ hm; have := BP1.out.lt; omega, fun _ y hy => .inr (Nat.le_trans K1.out.size (B3.out y hy)), K3.out.set1⟩
              · refine (M3.out z).trans ?_
                show mem N z ∨ _ ↔ _
                rw [ME.out, mem_step HGK.out, or_assoc]
              · rw [anyZ0_step HGK.out, MX.out, decide_eq_false HZ.out]; simp
            case measure => simp [intOf] <;> omega
        · obtain rfl : k = m := by omega
          have r9 : wr.cell? ⟨p, 9, none⟩ = some (.int .i64 S.now) := hbx.cell 9
          have r17 : wr.cell? ⟨p, 17, none⟩ = some (.int .i64 S.tm) := hbx.cell 17
          have r18 : wr.cell? ⟨p, 18, none⟩ = some (.int .i64 S.tr) := hbx.cell 18
          have r17f := hbx.frozen 17
          have r18f := hbx.frozen 18
          clear hbx hvx hcx hnx hmx hme hyx hfx hkx
          go_wp2_with fail
          go_ret
          refine ⟨N, Y, yc, rfl, NX.out, fun z => ?_, ?_, (VX.out.far _ YX.out).far _ YX.out, CX.out, YX.out, FX.out, (KX.out.set1).set1⟩
          · rw [ME.out, HML.out, List.take_length]
          · have hb := (BX.out.set_ 17 (.int .i64 S.now)).set_ 18 (.int .i64 0)
            have hm := MX.out
            rw [HML.out, List.take_length] at hm
            rw [hm] at hb
            exact hb
end Go.Proofs.Ytfkbcflgbjncdaa
