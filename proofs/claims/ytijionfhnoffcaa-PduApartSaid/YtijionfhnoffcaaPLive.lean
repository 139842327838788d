/- The examples of the chapter hold. -/
import Derived.Test.YtijionfhnoffcaaPLive0
import Derived.Deep.DeepCutAuto
namespace Go.Proofs.Ytijionfhnoffcaa
set_option linter.unusedVariables false
set_option linter.unusedSimpArgs false
open Go.RowKit
theorem enc_form {w W : World} {A : Option Addr} {n c : Nat} {L : List Int} (h : AV w W A n c L) (hL : 0 < L.length) : ∃ x, A = some ⟨x, 0, none⟩ ∧ w.heap.size ≤ x ∧ x < W.heap.size ∧ n = L.length ∧ n ≤ c ∧ c ≤ maxLen := by
  have hn := h.len
  rcases h.1.form with ⟨_, h0, _⟩ | ⟨x, rfl, hx, h1, h2⟩
  · omega
  · exact ⟨x, rfl, h.2.2 x (by simp [blks]), hx, hn, h1, h2⟩
theorem gaps2 (W : World) (S : Nat) (a b c d : Int) (h : Blk W S 41 #[.int .i64 a, .int .i64 b, .int .i64 c, .int .i64 d]) : Vw W (some ⟨S, 0, none⟩) 2 2 (([⟨a, b⟩, ⟨c, d⟩] : List Gp).flatMap gcells) :=
  ⟨rfl, fun _ => ⟨S, 0, rfl, h.lt, fun j u hu => by rw [Nat.zero_add, h.cell j]; match j, hu with | 0, hu => exact hu | 1, hu => exact hu | 2, hu => exact hu | 3, hu => exact hu⟩⟩
set_option maxRecDepth 100000 in
set_option maxHeartbeats 4000000 in
theorem lives_any (w : World) : Calls Try.prog 9 #[] w fun e w' => e = .returned (.bool true) ∧ Keep w.heap.size [] w w' := by
  obtain ⟨W0, hW0⟩ : ∃ W, W = ((w.alloc (.cells (pcs exM zL) TP)).alloc (.cells #[.int .i64 0, .int .i64 0, .int .i64 0, .int .i64 2] 41)).alloc (.cells (pcs exN ⟨none, 0, 0, some ⟨w.heap.size + 1, 0, none⟩, 2, 2⟩) TP) := ⟨_, rfl⟩
  have k1 : Keep w.heap.size [] w W0 := by rw [hW0]; exact (((Keep.refl _ _ w).alloc (Nat.le_refl _) _).alloc (by simp) _).alloc (by simp; omega) _
  have hA : Blk W0 w.heap.size TP (pcs exM zL) := by rw [hW0]; exact ((Blk.new _ _ _).alloc _).alloc _
  have hS : Blk W0 (w.heap.size + 1) 41 #[.int .i64 0, .int .i64 0, .int .i64 0, .int .i64 2] := by
    rw [hW0]
    have := (Blk.new (w.alloc (.cells (pcs exM zL) TP)) 41 #[.int .i64 0, .int .i64 0, .int .i64 0, .int .i64 2]).alloc (.cells (pcs exN ⟨none, 0, 0, some ⟨w.heap.size + 1, 0, none⟩, 2, 2⟩) TP)
    simpa using this
  have hB : Blk W0 (w.heap.size + 1 + 1) TP (pcs exN ⟨none, 0, 0, some ⟨w.heap.size + 1, 0, none⟩, 2, 2⟩) := by
    rw [hW0]
    have := Blk.new ((w.alloc (.cells (pcs exM zL) TP)).alloc (.cells #[.int .i64 0, .int .i64 0, .int .i64 0, .int .i64 2] 41)) TP (pcs exN ⟨none, 0, 0, some ⟨w.heap.size + 1, 0, none⟩, 2, 2⟩)
    simpa using this
  go_enter Try.func9, Try.ntmps9
  go_upto_region 3 with fail
  change Code.wp _ _ _ _ (((w.alloc (.cells (pcs exM zL) TP)).alloc (.cells #[.int .i64 0, .int .i64 0, .int .i64 0, .int .i64 2] 41)).alloc (.cells (pcs exN ⟨none, 0, 0, some ⟨w.heap.size + 1, 0, none⟩, 2, 2⟩) TP))
  rw [← hW0]
  obtain ⟨A, hAq⟩ : ∃ A, A = w.heap.size := ⟨_, rfl⟩
  obtain ⟨S, hSq⟩ : ∃ S, S = A + 1 := ⟨_, rfl⟩
  obtain ⟨B, hBq⟩ : ∃ B, B = S + 1 := ⟨_, rfl⟩
  rw [← hAq, ← hSq] at hS
  rw [← hAq, ← hSq, ← hBq] at hB
  rw [← hAq] at hA
  rw [← hAq, ← hSq, ← hBq]
  have KA := Lib.hid hA
  have KB := Lib.hid hB
  have KS := Lib.hid hS
  have K0 := Lib.hid k1
  have hA0 : w.heap.size ≤ A := by omega
  have hB0 : w.heap.size ≤ B := by omega
  have hAB : A ≠ B := by omega
  have hSB : S ≠ B := by omega
  clear hW0 hAq hSq hBq hA hB hS k1
  obtain ⟨M, hM⟩ : ∃ M, M = exM := ⟨_, rfl⟩
  obtain ⟨NN, hN⟩ : ∃ M, M = exN := ⟨_, rfl⟩
  rw [← hM] at KA
  rw [← hN] at KB
  have PM : Hid (PIn W0 M zL) := Lib.hid (by rw [hM]; exact ⟨by intro x hx; simp [exM] at hx; omega, oct_nil, Vw.nil _ _, Vw.nil _ _, ⟨Nat.le_refl _, Nat.zero_le _⟩, ⟨Nat.le_refl _, Nat.zero_le _⟩, by simp [exM], by simp [zL], by simp [zL], by simp [exM]⟩)
  have PN : Hid (PIn W0 NN (⟨none, 0, 0, some ⟨S, 0, none⟩, 2, 2⟩ : Lc)) := Lib.hid (by rw [hN]; exact ⟨oct_nil, oct_nil, Vw.nil _ _, gaps2 W0 S 0 0 0 2 KS.out, ⟨Nat.le_refl _, Nat.zero_le _⟩, ⟨Nat.le_refl _, by simp only; unfold maxLen; omega⟩, by simp [exN], by simp, by simp, by simp [exN]⟩)
  have HM : Hid (encR M = (octM, 0)) := Lib.hid (by rw [hM]; exact encRM)
  have HN : Hid (encR NN = (octN, 0)) := Lib.hid (by rw [hN]; exact encRN)
  have VM : Hid (validP M = true) := Lib.hid (by rw [hM]; exact validM)
  have EN := Lib.hid hN
  clear hM hN
  have c0 : W0.cell? ⟨A, 0, none⟩ = some (.int .i64 M.kind) := KA.out.cell 0
  have c1 : W0.cell? ⟨A, 1, none⟩ = some (.int .i64 M.src) := KA.out.cell 1
  have c2 : W0.cell? ⟨A, 2, none⟩ = some (.int .i64 M.num) := KA.out.cell 2
  have c3 : W0.cell? ⟨A, 3, none⟩ = some (.int .i64 M.cls) := KA.out.cell 3
  have c4 : W0.cell? ⟨A, 4, none⟩ = some (.string (strOfNums M.name)) := KA.out.cell 4
  have c5 : W0.cell? ⟨A, 5, none⟩ = some (.int .i64 M.size) := KA.out.cell 5
  have c6 : W0.cell? ⟨A, 6, none⟩ = some (.int .i64 M.off) := KA.out.cell 6
  have c7 : W0.cell? ⟨A, 7, none⟩ = some (.slice zL.D zL.dn zL.dc) := KA.out.cell 7
  have c8 : W0.cell? ⟨A, 8, none⟩ = some (.int .u32 M.sum) := KA.out.cell 8
  have c9 : W0.cell? ⟨A, 9, none⟩ = some (.int .i64 M.code) := KA.out.cell 9
  have c10 : W0.cell? ⟨A, 10, none⟩ = some (.slice zL.G zL.gn zL.gc) := KA.out.cell 10
  go_wp2_with fail
  refine (penc_any _ M zL PM.out).mono ?_
  rw [HM.out]
  rintro e W1 ⟨A1, n1, d1, rfl, h1⟩
  obtain ⟨x1, rfl, hx1, hx1', hn1, hd1, hd1'⟩ := enc_form h1 (by simp [octM])
  obtain rfl : n1 = 8 := hn1
  have V1 : Hid (Vw W1 (some ⟨x1, 0, none⟩) 8 1 (octs octM)) := Lib.hid (h1.1.vw (by omega))
  have K1 := Lib.hid h1.2.1
  have hd1i : (7 : Int) ≤ (d1 : Int) := by omega
  have hd1j : (8 : Int) ≤ (d1 : Int) := by omega
  have hd1k : (d1 : Int) ≤ 9223372036854775807 := by unfold maxLen at hd1'; omega
  clear h1 hd1 hd1' c0 c1 c2 c3 c4 c5 c6 c7 c8 c9 c10
  have c0 : W1.cell? ⟨B, 0, none⟩ = some (.int .i64 NN.kind) := (KB.out.keepS K1.out (by simp)).cell 0
  have c1 : W1.cell? ⟨B, 1, none⟩ = some (.int .i64 NN.src) := (KB.out.keepS K1.out (by simp)).cell 1
  have c2 : W1.cell? ⟨B, 2, none⟩ = some (.int .i64 NN.num) := (KB.out.keepS K1.out (by simp)).cell 2
  have c3 : W1.cell? ⟨B, 3, none⟩ = some (.int .i64 NN.cls) := (KB.out.keepS K1.out (by simp)).cell 3
  have c4 : W1.cell? ⟨B, 4, none⟩ = some (.string (strOfNums NN.name)) := (KB.out.keepS K1.out (by simp)).cell 4
  have c5 : W1.cell? ⟨B, 5, none⟩ = some (.int .i64 NN.size) := (KB.out.keepS K1.out (by simp)).cell 5
  have c6 : W1.cell? ⟨B, 6, none⟩ = some (.int .i64 NN.off) := (KB.out.keepS K1.out (by simp)).cell 6
  have c7 : W1.cell? ⟨B, 7, none⟩ = some (.slice (⟨none, 0, 0, some ⟨S, 0, none⟩, 2, 2⟩ : Lc).D (⟨none, 0, 0, some ⟨S, 0, none⟩, 2, 2⟩ : Lc).dn (⟨none, 0, 0, some ⟨S, 0, none⟩, 2, 2⟩ : Lc).dc) := (KB.out.keepS K1.out (by simp)).cell 7
  have c8 : W1.cell? ⟨B, 8, none⟩ = some (.int .u32 NN.sum) := (KB.out.keepS K1.out (by simp)).cell 8
  have c9 : W1.cell? ⟨B, 9, none⟩ = some (.int .i64 NN.code) := (KB.out.keepS K1.out (by simp)).cell 9
  have c10 : W1.cell? ⟨B, 10, none⟩ = some (.slice (⟨none, 0, 0, some ⟨S, 0, none⟩, 2, 2⟩ : Lc).G (⟨none, 0, 0, some ⟨S, 0, none⟩, 2, 2⟩ : Lc).gn (⟨none, 0, 0, some ⟨S, 0, none⟩, 2, 2⟩ : Lc).gc) := (KB.out.keepS K1.out (by simp)).cell 10
  go_wp2_with fail
  refine (penc_any _ NN (⟨none, 0, 0, some ⟨S, 0, none⟩, 2, 2⟩ : Lc) (PN.out.keep0 K1.out)).mono ?_
  rw [HN.out]
  rintro e W2 ⟨A2, n2, d2, rfl, h2⟩
  obtain ⟨x2, rfl, hx2, hx2', hn2, hd2, hd2'⟩ := enc_form h2 (by simp [octN])
  obtain rfl : n2 = 9 := hn2
  have V2 : Hid (Vw W2 (some ⟨x2, 0, none⟩) 9 1 (octs octN)) := Lib.hid (h2.1.vw (by omega))
  have K2 := Lib.hid h2.2.1
  clear h2 hd2 hd2' c0 c1 c2 c3 c4 c5 c6 c7 c8 c9 c10
  go_wp2_with fail
  refine (pdec_any _ _ _ d2 octN octN_oct (by simp [octN]) V2.out).mono ?_
  rw [decN]
  rintro e W3 ⟨hk3, l3, rfl, hp3, hD3, hG3⟩
  have K3 := Lib.hid hk3
  have P3 := Lib.hid hp3
  clear hk3 hp3
  simp only [pcs]
  go_upto_region 6 with fail
  change Code.wp _ _ _ _ (W3.alloc (.cells (pcs exN l3) TP))
  obtain ⟨W4, hW4⟩ : ∃ W, W = W3.alloc (.cells (pcs exN l3) TP) := ⟨_, rfl⟩
  obtain ⟨C, hC⟩ : ∃ C, C = W3.heap.size := ⟨_, rfl⟩
  have BC : Hid (Blk W4 C TP (pcs exN l3)) := Lib.hid (by rw [hW4, hC]; exact Blk.new _ _ _)
  have K4 : Hid (Keep W3.heap.size [] W3 W4) := Lib.hid (by rw [hW4]; exact (Keep.refl _ _ _).alloc (Nat.le_refl _) _)
  rw [← hW4, ← hC]
  have hCs : W3.heap.size ≤ C := by omega
  clear hW4 hC
  have V14 := Lib.hid ((((V1.out.keep0 K2.out).keep0 K3.out).keep0 K4.out).take (k := 7) (by omega))
  go_wp2_with fail
  refine (pdec_any _ _ _ d1 (octM.take 7) (oct_take octM_oct 7) (by simp [octM]) V14.out).mono ?_
  rw [decM7]
  rintro e W5 ⟨hk5, l5, rfl, hp5, _, _⟩
  have K5 := Lib.hid hk5
  clear hk5 hp5
  simp only [pcs]
  go_upto_region 7 with fail
  change Code.wp _ _ _ _ (W5.alloc (.cells (pcs zP l5) TP))
  obtain ⟨W6, hW6⟩ : ∃ W, W = W5.alloc (.cells (pcs zP l5) TP) := ⟨_, rfl⟩
  have K6 : Hid (Keep W5.heap.size [] W5 W6) := Lib.hid (by rw [hW6]; exact (Keep.refl _ _ _).alloc (Nat.le_refl _) _)
  rw [← hW6]
  clear hW6
  obtain ⟨W7, hW7⟩ : ∃ W, W = W6.alloc (.cells #[.int .i64 0, .int .i64 2, .int .i64 2, .int .i64 4] 41) := ⟨_, rfl⟩
  obtain ⟨T, hT⟩ : ∃ T, T = W6.heap.size := ⟨_, rfl⟩
  have K7 : Hid (Keep W6.heap.size [] W6 W7) := Lib.hid (by rw [hW7]; exact (Keep.refl _ _ _).alloc (Nat.le_refl _) _)
  have KK : Hid (Keep W0.heap.size [] W0 W7) := Lib.hid ((((((K1.out.chain0 (Nat.le_refl _) K2.out).chain0 (Nat.le_refl _) K3.out).chain0 (Nat.le_refl _) K4.out).chain0 (Nat.le_refl _) K5.out).chain0 (Nat.le_refl _) K6.out).chain0 (Nat.le_refl _) K7.out)
  have K37 : Hid (Keep W3.heap.size [] W3 W7) := Lib.hid (((K4.out.chain0 (Nat.le_refl _) K5.out).chain0 (Nat.le_refl _) K6.out).chain0 (Nat.le_refl _) K7.out)
  have K27 : Hid (Keep W2.heap.size [] W2 W7) := Lib.hid (K3.out.chain0 (Nat.le_refl _) K37.out)
  have K17 : Hid (Keep W1.heap.size [] W1 W7) := Lib.hid (K2.out.chain0 (Nat.le_refl _) K27.out)
  have hT0 := K37.out.size
  have BT : Hid (Blk W7 T 41 #[.int .i64 0, .int .i64 2, .int .i64 2, .int .i64 4]) := Lib.hid (by rw [hW7, hT]; exact Blk.new _ _ _)
  have hb7 := KB.out.keepS KK.out (by simp)
  have x10 : (W6.alloc (.cells #[.int .i64 0, .int .i64 2, .int .i64 2, .int .i64 4] 41)).cell? ⟨B, 10, none⟩ = some (.slice (some ⟨S, 0, none⟩) 2 2) := by rw [← hW7]; exact hb7.cell 10
  have z10 : (W6.alloc (.cells #[.int .i64 0, .int .i64 2, .int .i64 2, .int .i64 4] 41)).frozen? ⟨B, 10, none⟩ = false := by rw [← hW7]; exact hb7.frozen 10
  have hTS : T ≠ B := by have h1 := KB.out.lt; have h2 := K1.out.size; have h3 := K2.out.size; have h4 := K3.out.size; have h5 := K4.out.size; have h6 := K5.out.size; have h7 := K6.out.size; omega
  go_upto_region 8 with fail
  rw [← hW7, ← hT]
  have hb8 : Blk (W7.setCell ⟨B, 10, none⟩ (.slice (some ⟨T, 0, none⟩) 2 2)) B TP (pcs exK (⟨none, 0, 0, some ⟨T, 0, none⟩, 2, 2⟩ : Lc)) := by
    have := hb7.set_ 10 (.slice (some ⟨T, 0, none⟩) 2 2)
    rw [EN.out] at this
    exact this
  have hk8 : Keep W7.heap.size [B] W7 (W7.setCell ⟨B, 10, none⟩ (.slice (some ⟨T, 0, none⟩) 2 2)) := (Keep.refl _ _ _).set1
  obtain ⟨W8, hW8⟩ : ∃ W, W = W7.setCell ⟨B, 10, none⟩ (.slice (some ⟨T, 0, none⟩) 2 2) := ⟨_, rfl⟩
  rw [← hW8] at hb8 hk8 ⊢
  have hBl := KB.out.lt
  have h21 := K1.out.size
  have h22 := K2.out.size
  have h23 := K3.out.size
  have KB8 := Lib.hid hb8
  have KA8 : Hid (Blk W8 A TP (pcs M zL)) := Lib.hid ((KA.out.keepS KK.out (by simp)).keepS hk8 (by simpa using hAB))
  have V18 : Hid (Vw W8 (some ⟨x1, 0, none⟩) 8 1 (octs octM)) := Lib.hid ((V1.out.keep0 K17.out).keepS hk8 (fun x hx => by have hx2 : x = x1 := (by simpa [blks] using hx); simp; omega))
  have V28 : Hid (Vw W8 (some ⟨x2, 0, none⟩) 9 1 (octs octN)) := Lib.hid ((V2.out.keep0 K27.out).keepS hk8 (fun x hx => by have hx3 : x = x2 := (by simpa [blks] using hx); simp; omega))
  have hC0 : B ≠ C := by omega
  have BC8 : Hid (Blk W8 C TP (pcs exN l3)) := Lib.hid ((BC.out.keepS ((K5.out.chain0 (Nat.le_refl _) K6.out).chain0 (Nat.le_refl _) K7.out) (by simp)).keepS hk8 (by simpa using Ne.symm hC0))
  have P38 : Hid (PIn W8 exN l3) := Lib.hid ((P3.out.keep0 K37.out).keepS hk8 (fun x hx => by have := hD3 x hx; simp; omega) (fun x hx => by have := hG3 x hx; simp; omega))
  have PM8 : Hid (PIn W8 M zL) := Lib.hid ((PM.out.keep0 KK.out).keepS hk8 (by simp [blks, zL]) (by simp [blks, zL]))
  have PK8 : Hid (PIn W8 exK (⟨none, 0, 0, some ⟨T, 0, none⟩, 2, 2⟩ : Lc)) := Lib.hid ⟨oct_nil, oct_nil, Vw.nil _ _, gaps2 W8 T 0 2 2 4 (BT.out.keepS hk8 (by simpa using hTS)), ⟨Nat.le_refl _, Nat.zero_le _⟩, ⟨Nat.le_refl _, by simp only; unfold maxLen; omega⟩, by simp [exK], by simp, by simp, by simp [exK]⟩
  have KK8 : Hid (Keep w.heap.size [] w W8) := Lib.hid ((K0.out.chain0 (Nat.le_refl _) KK.out).chain1 (Nat.le_refl _) hk8 hB0)
  clear hW7 hT hW8 x10 z10 hb7 hb8 hk8 hTS hC0
  have c0 : W8.cell? ⟨B, 0, none⟩ = some (.int .i64 exK.kind) := KB8.out.cell 0
  have c1 : W8.cell? ⟨B, 1, none⟩ = some (.int .i64 exK.src) := KB8.out.cell 1
  have c2 : W8.cell? ⟨B, 2, none⟩ = some (.int .i64 exK.num) := KB8.out.cell 2
  have c3 : W8.cell? ⟨B, 3, none⟩ = some (.int .i64 exK.cls) := KB8.out.cell 3
  have c4 : W8.cell? ⟨B, 4, none⟩ = some (.string (strOfNums exK.name)) := KB8.out.cell 4
  have c5 : W8.cell? ⟨B, 5, none⟩ = some (.int .i64 exK.size) := KB8.out.cell 5
  have c6 : W8.cell? ⟨B, 6, none⟩ = some (.int .i64 exK.off) := KB8.out.cell 6
  have c7 : W8.cell? ⟨B, 7, none⟩ = some (.slice (⟨none, 0, 0, some ⟨T, 0, none⟩, 2, 2⟩ : Lc).D (⟨none, 0, 0, some ⟨T, 0, none⟩, 2, 2⟩ : Lc).dn (⟨none, 0, 0, some ⟨T, 0, none⟩, 2, 2⟩ : Lc).dc) := KB8.out.cell 7
  have c8 : W8.cell? ⟨B, 8, none⟩ = some (.int .u32 exK.sum) := KB8.out.cell 8
  have c9 : W8.cell? ⟨B, 9, none⟩ = some (.int .i64 exK.code) := KB8.out.cell 9
  have c10 : W8.cell? ⟨B, 10, none⟩ = some (.slice (⟨none, 0, 0, some ⟨T, 0, none⟩, 2, 2⟩ : Lc).G (⟨none, 0, 0, some ⟨T, 0, none⟩, 2, 2⟩ : Lc).gn (⟨none, 0, 0, some ⟨T, 0, none⟩, 2, 2⟩ : Lc).gc) := KB8.out.cell 10
  go_wp2_with fail
  refine (penc_any _ exK (⟨none, 0, 0, some ⟨T, 0, none⟩, 2, 2⟩ : Lc) PK8.out).mono ?_
  rw [encRK]
  rintro e W9 ⟨A9, n9, d9, rfl, h9⟩
  have K9 := Lib.hid h9.2.1
  clear h9 c0 c1 c2 c3 c4 c5 c6 c7 c8 c9 c10
  go_upto_region 9 with fail
  have hg3 : l3.gn = 2 := P38.out.glen
  obtain ⟨bb, o, y, hG, hy, d0, d1'⟩ := gap_at ((P38.out.vg).keep0 K9.out) (k := 1) (by omega)
  have hyy : y = ⟨0, 2⟩ := by have : exN.gaps[1]? = some (⟨0, 2⟩ : Gp) := rfl; rw [this] at hy; exact (Option.some.inj hy).symm
  rw [hyy] at d0 d1'
  have d0' : W9.cell? ⟨bb, o + 2, none⟩ = some (.int .i64 0) := d0
  have d2' : W9.cell? ⟨bb, o + 2 + 1, none⟩ = some (.int .i64 2) := d1'
  have hcap : 2 ≤ l3.gc ∧ l3.gc ≤ maxLen := by have := P38.out.cg; rw [hg3] at this; exact this
  have hcap1 : (2 : Int) ≤ (l3.gc : Int) := by omega
  have hcap2 : (l3.gc : Int) ≤ 9223372036854775807 := by have := hcap.2; unfold maxLen at this; omega
  have g10 : W9.cell? ⟨C, 10, none⟩ = some (.slice (some ⟨bb, o, none⟩) 2 l3.gc) := by
    have := (BC8.out.keepS K9.out (by simp)).cell 10
    rw [this, ← hG, ← hg3]; rfl
  have s1 : strOfNums octM = (⟨#[1, 1, 1, 44, 2, 8, 2, 120]⟩ : ByteArray) := rfl
  have s2 : strOfNums octN = (⟨#[4, 1, 0, 5, 4, 0, 0, 0, 4]⟩ : ByteArray) := rfl
  have hc1 := conv_str (P := Try.prog) (w := W9) 24 9 5 Try.underlying24 Try.underlying5 Try.underlying9 (some ⟨x1, 0, none⟩) 8 d1 octM (V18.out.keep0 K9.out)
  have hc2 := conv_str (P := Try.prog) (w := W9) 24 9 5 Try.underlying24 Try.underlying5 Try.underlying9 (some ⟨x2, 0, none⟩) 9 d2 octN (V28.out.keep0 K9.out)
  rw [s1] at hc1
  rw [s2] at hc2
  clear d0 d1' hy hyy hG hg3 s1 s2 hcap
  have c0 : W9.cell? ⟨A, 0, none⟩ = some (.int .i64 M.kind) := (KA8.out.keepS K9.out (by simp)).cell 0
  have c1 : W9.cell? ⟨A, 1, none⟩ = some (.int .i64 M.src) := (KA8.out.keepS K9.out (by simp)).cell 1
  have c2 : W9.cell? ⟨A, 2, none⟩ = some (.int .i64 M.num) := (KA8.out.keepS K9.out (by simp)).cell 2
  have c3 : W9.cell? ⟨A, 3, none⟩ = some (.int .i64 M.cls) := (KA8.out.keepS K9.out (by simp)).cell 3
  have c4 : W9.cell? ⟨A, 4, none⟩ = some (.string (strOfNums M.name)) := (KA8.out.keepS K9.out (by simp)).cell 4
  have c5 : W9.cell? ⟨A, 5, none⟩ = some (.int .i64 M.size) := (KA8.out.keepS K9.out (by simp)).cell 5
  have c6 : W9.cell? ⟨A, 6, none⟩ = some (.int .i64 M.off) := (KA8.out.keepS K9.out (by simp)).cell 6
  have c7 : W9.cell? ⟨A, 7, none⟩ = some (.slice zL.D zL.dn zL.dc) := (KA8.out.keepS K9.out (by simp)).cell 7
  have c8 : W9.cell? ⟨A, 8, none⟩ = some (.int .u32 M.sum) := (KA8.out.keepS K9.out (by simp)).cell 8
  have c9 : W9.cell? ⟨A, 9, none⟩ = some (.int .i64 M.code) := (KA8.out.keepS K9.out (by simp)).cell 9
  have c10 : W9.cell? ⟨A, 10, none⟩ = some (.slice zL.G zL.gn zL.gc) := (KA8.out.keepS K9.out (by simp)).cell 10
  have e0 : W9.cell? ⟨B, 0, none⟩ = some (.int .i64 exK.kind) := (KB8.out.keepS K9.out (by simp)).cell 0
  have e1 : W9.cell? ⟨B, 1, none⟩ = some (.int .i64 exK.src) := (KB8.out.keepS K9.out (by simp)).cell 1
  have e2 : W9.cell? ⟨B, 2, none⟩ = some (.int .i64 exK.num) := (KB8.out.keepS K9.out (by simp)).cell 2
  have e3 : W9.cell? ⟨B, 3, none⟩ = some (.int .i64 exK.cls) := (KB8.out.keepS K9.out (by simp)).cell 3
  have e4 : W9.cell? ⟨B, 4, none⟩ = some (.string (strOfNums exK.name)) := (KB8.out.keepS K9.out (by simp)).cell 4
  have e5 : W9.cell? ⟨B, 5, none⟩ = some (.int .i64 exK.size) := (KB8.out.keepS K9.out (by simp)).cell 5
  have e6 : W9.cell? ⟨B, 6, none⟩ = some (.int .i64 exK.off) := (KB8.out.keepS K9.out (by simp)).cell 6
  have e7 : W9.cell? ⟨B, 7, none⟩ = some (.slice (⟨none, 0, 0, some ⟨T, 0, none⟩, 2, 2⟩ : Lc).D (⟨none, 0, 0, some ⟨T, 0, none⟩, 2, 2⟩ : Lc).dn (⟨none, 0, 0, some ⟨T, 0, none⟩, 2, 2⟩ : Lc).dc) := (KB8.out.keepS K9.out (by simp)).cell 7
  have e8 : W9.cell? ⟨B, 8, none⟩ = some (.int .u32 exK.sum) := (KB8.out.keepS K9.out (by simp)).cell 8
  have e9 : W9.cell? ⟨B, 9, none⟩ = some (.int .i64 exK.code) := (KB8.out.keepS K9.out (by simp)).cell 9
  have e10 : W9.cell? ⟨B, 10, none⟩ = some (.slice (⟨none, 0, 0, some ⟨T, 0, none⟩, 2, 2⟩ : Lc).G (⟨none, 0, 0, some ⟨T, 0, none⟩, 2, 2⟩ : Lc).gn (⟨none, 0, 0, some ⟨T, 0, none⟩, 2, 2⟩ : Lc).gc) := (KB8.out.keepS K9.out (by simp)).cell 10
  go_wp2_with fail
  refine (pvalid_b _ M zL true (PM8.out.keep0 K9.out) VM.out).mono ?_
  rintro e W10 ⟨rfl, h10⟩
  have K10 := Lib.hid h10
  clear h10 hc1 hc2 g10 d0' d2' c0 c1 c2 c3 c4 c5 c6 c7 c8 c9 c10 e0 e1 e2 e3 e4 e5 e6 e7 e8 e9 e10
  have e0 : W10.cell? ⟨B, 0, none⟩ = some (.int .i64 exK.kind) := ((KB8.out.keepS K9.out (by simp)).keepS K10.out (by simp)).cell 0
  have e1 : W10.cell? ⟨B, 1, none⟩ = some (.int .i64 exK.src) := ((KB8.out.keepS K9.out (by simp)).keepS K10.out (by simp)).cell 1
  have e2 : W10.cell? ⟨B, 2, none⟩ = some (.int .i64 exK.num) := ((KB8.out.keepS K9.out (by simp)).keepS K10.out (by simp)).cell 2
  have e3 : W10.cell? ⟨B, 3, none⟩ = some (.int .i64 exK.cls) := ((KB8.out.keepS K9.out (by simp)).keepS K10.out (by simp)).cell 3
  have e4 : W10.cell? ⟨B, 4, none⟩ = some (.string (strOfNums exK.name)) := ((KB8.out.keepS K9.out (by simp)).keepS K10.out (by simp)).cell 4
  have e5 : W10.cell? ⟨B, 5, none⟩ = some (.int .i64 exK.size) := ((KB8.out.keepS K9.out (by simp)).keepS K10.out (by simp)).cell 5
  have e6 : W10.cell? ⟨B, 6, none⟩ = some (.int .i64 exK.off) := ((KB8.out.keepS K9.out (by simp)).keepS K10.out (by simp)).cell 6
  have e7 : W10.cell? ⟨B, 7, none⟩ = some (.slice (⟨none, 0, 0, some ⟨T, 0, none⟩, 2, 2⟩ : Lc).D (⟨none, 0, 0, some ⟨T, 0, none⟩, 2, 2⟩ : Lc).dn (⟨none, 0, 0, some ⟨T, 0, none⟩, 2, 2⟩ : Lc).dc) := ((KB8.out.keepS K9.out (by simp)).keepS K10.out (by simp)).cell 7
  have e8 : W10.cell? ⟨B, 8, none⟩ = some (.int .u32 exK.sum) := ((KB8.out.keepS K9.out (by simp)).keepS K10.out (by simp)).cell 8
  have e9 : W10.cell? ⟨B, 9, none⟩ = some (.int .i64 exK.code) := ((KB8.out.keepS K9.out (by simp)).keepS K10.out (by simp)).cell 9
  have e10 : W10.cell? ⟨B, 10, none⟩ = some (.slice (⟨none, 0, 0, some ⟨T, 0, none⟩, 2, 2⟩ : Lc).G (⟨none, 0, 0, some ⟨T, 0, none⟩, 2, 2⟩ : Lc).gn (⟨none, 0, 0, some ⟨T, 0, none⟩, 2, 2⟩ : Lc).gc) := ((KB8.out.keepS K9.out (by simp)).keepS K10.out (by simp)).cell 10
  go_wp2_with fail
  refine (pvalid_b _ exK (⟨none, 0, 0, some ⟨T, 0, none⟩, 2, 2⟩ : Lc) false ((PK8.out.keep0 K9.out).keep0 K10.out) validK).mono ?_
  rintro e W11 ⟨rfl, h11⟩
  have K11 := Lib.hid h11
  clear h11 e0 e1 e2 e3 e4 e5 e6 e7 e8 e9 e10
  go_wp2_with fail
  refine (pfwd_b _ 7 true rfl).mono ?_
  rintro e w1 ⟨rfl, rfl⟩
  go_wp2_with fail
  refine (pfwd_b _ 4 false rfl).mono ?_
  rintro e w1 ⟨rfl, rfl⟩
  go_wp2_with fail
  refine (pfwd_b _ 0 false rfl).mono ?_
  rintro e w1 ⟨rfl, rfl⟩
  go_wp2_with fail
  go_ret
  exact ⟨rfl, ((KK8.out.chain0 (Nat.le_refl _) K9.out).chain0 (Nat.le_refl _) K10.out).chain0 (Nat.le_refl _) K11.out⟩
end Go.Proofs.Ytijionfhnoffcaa
