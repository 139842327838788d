/- ranges.Remove, Missing. -/
import Derived.Test.YtfkbcflgbjncdaaTxG
import Derived.Test.YtfkbcflgbjncdaaTxO
namespace Go.Proofs.Ytfkbcflgbjncdaa
set_option linter.unusedVariables false
set_option linter.unusedSimpArgs false
open Go.RowKit
theorem Vw.ofBlk {w : World} {q : Nat} {t : TypeId} {cs : Array Value} (h : Blk w q t cs) {m size : Nat} (hs : cs.size = m * size) : Vw w (some ⟨q, 0, none⟩) m size cs.toList := by
  refine ⟨by simpa using hs, fun _ => ⟨q, 0, rfl, h.lt, fun j u hu => ?_⟩⟩
  rw [Nat.zero_add, h.cell]
  simpa using hu
/-- a range without another one, in two parts -/
def cut (x g : Gp) : List Gp := [⟨x.f, min x.t g.f⟩, ⟨max x.f g.t, x.t⟩]
theorem mem_cut {x g : Gp} (hg : g.f < g.t) (z : Int) : mem (cut x g) z ↔ (x.f ≤ z ∧ z < x.t) ∧ ¬ (g.f ≤ z ∧ z < g.t) := by
  unfold cut
  rw [mem_cons, mem_one]
  simp only
  omega
theorem RnPost.imp {w : World} {p q : Int → Prop} {b c : Nat} {e : Ending} {w' : World} (h : RnPost w p b e w') (hpq : ∀ z, p z ↔ q z) (hbc : b ≤ c) : RnPost w q c e w' := by
  obtain ⟨A, cc, N, h1, h2, h3, h4, h5, h6, h7⟩ := h
  exact ⟨A, cc, N, h1, h2, h3, fun z => (h4 z).trans (hpq z), Nat.le_trans h5 hbc, h6, h7⟩
set_option maxRecDepth 100000 in
set_option maxHeartbeats 2000000 in
theorem remove_w (w : World) (X : Option Addr) (m c : Nat) (L : List Gp) (g : Gp) (hm : m ≤ 20000) (hg : g.f < g.t) (hv : Vw w X m 2 (gcs L)) : Calls Try.prog 129 #[.slice X m c, .agg #[.int .i64 g.f, .int .i64 g.t]] w (RnPost w (fun z => mem L z ∧ ¬ (g.f ≤ z ∧ z < g.t)) (2 * L.length)) := by
  have hml : m = L.length := by have := hv.1; rw [gcells_len] at this; omega
  have HV := Lib.hid hv
  have HML := Lib.hid hml
  have HG : Hid (decide (g.t ≤ g.f) = false) := Lib.hid (by simp; omega)
  clear hv hml
  obtain ⟨i0, hi0, hz0, hz1, hz2⟩ := info_parts infoRg
  go_enter Try.func129, Try.ntmps129
  go_upto_region 1 with fail
  change Code.wp _ _ _ _ (w.alloc (.cells #[.int .i64 g.f, .int .i64 g.t] TG))
  have hb := Blk.new w TG #[.int .i64 g.f, .int .i64 g.t]
  obtain ⟨W, hW⟩ : ∃ W, W = w.alloc (.cells #[.int .i64 g.f, .int .i64 g.t] TG) := ⟨_, rfl⟩
  have hk : Keep w.heap.size [] w W := by rw [hW]; exact (Keep.refl _ _ _).alloc (Nat.le_refl _) _
  have hvw : Vw W X m 2 (gcs L) := HV.out.keep0 hk
  rw [← hW] at hb ⊢
  obtain ⟨b, hbe⟩ : ∃ b, b = w.heap.size := ⟨_, rfl⟩
  rw [← hbe] at hb ⊢
  have HB := Lib.hid hb
  have HK := Lib.hid hk
  have HW := Lib.hid hvw
  have HBE := Lib.hid hbe
  clear hW hb hk hvw hbe
  go_wp2_with fail
  refine (normal_r _ X m c L (by omega) (by exact HW.out)).mono ?_
  rintro e w1 ⟨A1, c1, N, rfl, hs1, hn1, hm1, hl1, hk1, hb1⟩
  have S1 := Lib.hid hs1
  have N1 := Lib.hid hn1
  have M1 := Lib.hid hm1
  have L1 := Lib.hid hl1
  have K1 : Hid (Keep w.heap.size [] w w1) := Lib.hid (HK.out.chain0 (Nat.le_refl _) hk1)
  have B1 : Hid (Blk w1 b TG #[.int .i64 g.f, .int .i64 g.t]) := Lib.hid (HB.out.keepS hk1 (by simp))
  have hbl : b < w1.heap.size := B1.out.lt
  have g0 : w1.cell? ⟨b, 0, none⟩ = some (.int .i64 g.f) := B1.out.cell 0
  have g1 : w1.cell? ⟨b, 1, none⟩ = some (.int .i64 g.t) := B1.out.cell 1
  have hgt : (decide (g.t ≤ g.f)) = false := HG.out
  clear hs1 hn1 hm1 hl1 hk1 hb1
  go_wp2_with fail
  have hNl : N.length ≤ 20000 := by have := L1.out; have := HML.out; omega
  have hcap := S1.out.cap
  go_loopw [5, 18] (fun oo jj wr => ∃ (k : Nat) (A : Option Addr) (c : Nat) (O : List Gp), k ≤ N.length ∧ jj = .int .i64 k ∧ oo = .slice A (2 * k) c ∧ Sl wr TG 2 A (2 * k) c (gcs O) ∧ O.length = 2 * k ∧ (∀ z, mem O z ↔ mem (N.take k) z ∧ ¬ (g.f ≤ z ∧ z < g.t)) ∧ Keep w1.heap.size [] w1 wr ∧ ∀ y, y ∈ blks A → w1.heap.size ≤ y) (fun _ jj _ => N.length - (intOf jj).toNat)
  case atStart => exact ⟨0, none, 0, [], Nat.zero_le _, rfl, rfl, Sl.nil _ _ _, rfl, (fun z => by simp [mem_nil]), Keep.refl _ _ _, by simp [blks]⟩
  case round =>
    obtain ⟨k, A, cN, O, hk, rfl, rfl, hsl, hOl, hmem, hkw, hbA⟩ := hrel
    have SL := Lib.hid hsl
    have OL := Lib.hid hOl
    have ME := Lib.hid hmem
    have KW := Lib.hid hkw
    have BA := Lib.hid hbA
    clear hsl hOl hmem hkw hbA
    by_cases hlt : k < N.length
    · have hki : (k : Int) < (N.length : Int) := by omega
      obtain ⟨b2, o', r, rfl, hrk, d0, d1⟩ := gap_at ((S1.out.vw (by omega)).keep0 KW.out) hlt
      have RK := Lib.hid hrk
      obtain ⟨W1, hW1⟩ : ∃ W, W = wr.alloc (.cells #[.int .i64 r.f, .int .i64 r.t] TG) := ⟨_, rfl⟩
      obtain ⟨p, hp⟩ : ∃ p, p = wr.heap.size := ⟨_, rfl⟩
      have ka : Keep wr.heap.size [] wr W1 := by rw [hW1]; exact (Keep.refl _ _ _).alloc (Nat.le_refl _) _
      have Q1 : Hid (Blk W1 p TG #[.int .i64 r.f, .int .i64 r.t]) := Lib.hid (by rw [hW1, hp]; exact Blk.new _ _ _)
      have SL1 := Lib.hid (SL.out.keep0 ka)
      have KW1 := Lib.hid (KW.out.chain0 (Nat.le_refl _) ka)
      have G1 : Hid (Blk W1 b TG #[.int .i64 g.f, .int .i64 g.t]) := Lib.hid ((B1.out.keepS KW.out (by simp)).keepS ka (by simp))
      have x0 : W1.cell? ⟨p, 0, none⟩ = some (.int .i64 r.f) := Q1.out.cell 0
      have x1 : W1.cell? ⟨p, 1, none⟩ = some (.int .i64 r.t) := Q1.out.cell 1
      have y0 : W1.cell? ⟨b, 0, none⟩ = some (.int .i64 g.f) := G1.out.cell 0
      have y1 : W1.cell? ⟨b, 1, none⟩ = some (.int .i64 g.t) := G1.out.cell 1
      clear hrk ka
      go_upto_region 8 with fail
      change Code.wp _ _ _ _ (wr.alloc (.cells #[.int .i64 r.f, .int .i64 r.t] TG))
      rw [← hW1, ← hp]
      clear hW1 hp
      go_wp2_with (
        at_builtin
        refine wpList_appV _ rfl (.tmp 22) (.tmp 39) 83 rfl 158 i0 _ 2 16 Try.underlying83 hi0 hz0 hz1 hz2 rfl (by omega) A (2 * k) cN (gcs O) rfl (by exact SL1.out.alloc _) (some ⟨W1.heap.size, 0, none⟩) 2 2 (gcs (cut r g)) rfl (by exact Vw.ofBlk (Blk.new W1 TG #[.int .i64 r.f, .int .i64 (min r.t g.f), .int .i64 (max r.f g.t), .int .i64 r.t]) rfl) (gcs_one _) (by omega) (by omega) ?_
        intro A5 c5 W5 hs5 hk5 hb5
        have e5 : gcs O ++ gcs (cut r g) = gcs (O ++ cut r g) := by simp [gcs]
        rw [e5, show 2 * k + 2 = 2 * (k + 1) by omega] at hs5
        have S5 := Lib.hid hs5
        have ka : Keep W1.heap.size [] W1 (W1.alloc (.cells #[.int .i64 r.f, .int .i64 (min r.t g.f), .int .i64 (max r.f g.t), .int .i64 r.t] TG)) := (Keep.refl _ _ _).alloc (Nat.le_refl _) _
        have kz := ka.size
        have K6 : Hid (Keep w1.heap.size [] w1 W5) := Lib.hid ((KW1.out.chain0 (Nat.le_refl _) ka).trans (hk5.mono (Nat.le_trans KW1.out.size kz) (fun y hy hm => absurd (BA.out y hm) (by omega))))
        have B6 : Hid (∀ y, y ∈ blks A5 → w1.heap.size ≤ y) := Lib.hid (fun y hy => by
          have h9 := KW1.out.size
          rcases hb5 y hy with h8 | h8
          · exact BA.out y h8
          · rw [h8]; exact Nat.le_trans h9 kz)
        clear hs5 hk5 hb5 ka kz)
      go_roundw
      case rel =>
        refine ⟨k + 1, A5, c5, O ++ cut r g, by omega, by go_num, by rw [show 2 * k + 2 = 2 * (k + 1) by omega], S5.out, by rw [List.length_append, OL.out]; show 2 * k + 2 = _; omega, (fun z => ?_), K6.out, B6.out⟩
        rw [mem_app, ME.out, mem_cut (by have := of_decide_eq_false HG.out; omega), List.take_add_one, RK.out, mem_app]
        simp only [Option.toList_some, mem_one]
        constructor
        · rintro (⟨h1, h2⟩ | ⟨h1, h2⟩)
          · exact ⟨.inl h1, h2⟩
          · exact ⟨.inr h1, h2⟩
        · rintro ⟨h1 | h1, h2⟩
          · exact .inl ⟨h1, h2⟩
          · exact .inr ⟨h1, h2⟩
      case measure => simp [intOf] <;> omega
    · obtain rfl : k = N.length := by omega
      go_wp2_with fail
      refine (normal_r _ A (2 * N.length) cN O (by omega) (by exact SL.out.vw (by omega))).mono ?_
      rintro e w3 ⟨A3, c3, N3, rfl, hs3, hn3, hm3, hl3, hk3, hb3⟩
      have S3 := Lib.hid hs3
      have N3H := Lib.hid hn3
      have M3 := Lib.hid hm3
      have L3 := Lib.hid hl3
      have K3 : Hid (Keep w.heap.size [] w w3) := Lib.hid ((K1.out.trans (KW.out.mono K1.out.size (by simp))).chain0 (Nat.le_refl _) hk3)
      have B3 : Hid (∀ y, y ∈ blks A3 → w.heap.size ≤ y) := Lib.hid (fun y hy => Nat.le_trans K1.out.size (Nat.le_trans KW.out.size (hb3 y hy)))
      clear hs3 hn3 hm3 hl3 hk3 hb3
      go_wp2_with fail
      go_ret
      refine ⟨A3, c3, N3, rfl, S3.out, N3H.out, fun z => ?_, by have := L3.out; have := L1.out; have := OL.out; omega, K3.out, B3.out⟩
      rw [M3.out, ME.out, List.take_length, M1.out]
end Go.Proofs.Ytfkbcflgbjncdaa
