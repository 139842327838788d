/- EventPlays. -/
import Derived.Test.YtlceepknoijndaaEPlW
namespace Go.Proofs.Ytlceepknoijndaa
set_option linter.unusedVariables false
set_option linter.unusedSimpArgs false
open Go.RowKit
theorem ocell7 {w : World} {q : Nat} {t : TypeId} {x : Opn} (h : Blk w q t ⟨ocells x⟩) : w.cell? ⟨q, 0, none⟩ = some (.int .i64 x.call) ∧ w.cell? ⟨q, 1, none⟩ = some (.int .i64 x.e.t) ∧ w.cell? ⟨q, 2, none⟩ = some (.int .i64 x.e.id) ∧ w.cell? ⟨q, 3, none⟩ = some (.int .i64 x.e.sv) ∧ w.cell? ⟨q, 4, none⟩ = some (.int .i64 x.e.vl) ∧ w.cell? ⟨q, 5, none⟩ = some (.int .i64 x.id) ∧ w.cell? ⟨q, 6, none⟩ = some (.bool x.on) :=
  ⟨h.cell 0, h.cell 1, h.cell 2, h.cell 3, h.cell 4, h.cell 5, h.cell 6⟩
theorem inv0 (z mo : Int) (hz : min (max mo 0) 256 = z) : Inv 0 (s0 z) := by
  refine ⟨?_, ?_, ?_, ?_, ?_, ?_, ?_, ?_⟩ <;> simp [s0] <;> omega
theorem rs0 (w : World) (z : Int) : RS w (s0 z) none 0 0 none 0 0 := ⟨Vw.nil _ _, Vw.nil _ _, rfl, rfl, Nat.le_refl _, Nat.zero_le _, Nat.le_refl _, Nat.zero_le _⟩
set_option maxRecDepth 100000 in
set_option maxHeartbeats 16000000 in
theorem plays_any (w : World) (mo : Int) (X : Option Addr) (n0 cX : Nat) (L : List Opn) (hnc : n0 ≤ cX) (hcm : cX ≤ maxLen) (hv : Vw w X n0 7 (opns L)) : Calls Try.prog 5 #[.int .i64 mo, .slice X n0 cX] w (LawPost w) := by
  have HV := Lib.hid hv
  have HLn : Hid (n0 = L.length) := Lib.hid (by have := hv.1; rw [opns_len] at this; omega)
  have hncI : (n0 : Int) ≤ (cX : Int) := by omega
  have hcI : (cX : Int) ≤ 9223372036854775807 := by unfold maxLen at hcm; omega
  clear hv hcm
  by_cases hbig : 100 < n0
  · have hbI : (100 : Int) < (n0 : Int) := by omega
    go_enter Try.func5, Try.ntmps5
    go_wp2_with fail
    refine (alive_any _).mono ?_
    rintro e w2 ⟨rfl, hk⟩
    have K2 := Lib.hid hk
    clear hk
    go_wp2_with fail
    go_ret
    exact ⟨rfl, K2.out⟩
  have hbI : (n0 : Int) ≤ 100 := by omega
  obtain ⟨z, hz⟩ : ∃ z, min (max mo 0) 256 = z := ⟨_, rfl⟩
  have HZ := Lib.hid hz
  clear hz
  go_enter Try.func5, Try.ntmps5
  go_wp2_with fail
  refine (new_any _ mo z HZ.out).mono ?_
  rintro e w1 ⟨rfl, hs, hk⟩
  have S1 : Hid (SW w w1 (w.heap.size + 1) w.heap.size none 0 0 (s0 z)) := Lib.hid ⟨hk, hs, by omega, by omega, by simp [blks]⟩
  clear hs hk
  go_wp2_with fail
  refine (rnew_any _ mo z HZ.out).mono ?_
  rintro e w2 ⟨rfl, hk⟩
  have S2 := Lib.hid (S1.out.next hk)
  clear hk S1
  go_wp2_with fail
  have P2 : Hid (PW w (w2.alloc (.cells (rcells (s0 z) none 0 0 none 0 0) 42)) w2.heap.size (w.heap.size + 1) w.heap.size none 0 0 (s0 z) none 0 0 none 0 0 (s0 z)) := Lib.hid (by
    have hg := S2.out.sv.blk.lt
    have hr := S2.out.sv.mp.lt
    have k1 : Keep w2.heap.size [] w2 (w2.alloc (.cells (rcells (s0 z) none 0 0 none 0 0) 42)) := (Keep.refl _ _ w2).alloc (Nat.le_refl _) _
    exact ⟨S2.out.next k1, Blk.new _ _ _, S2.out.keep.size, rs0 _ _, by omega, by omega, by simp [blks], fun h => absurd h (by omega), fun h => absurd h (by omega)⟩)
  obtain ⟨W0, hW0⟩ : ∃ W, W = w2.alloc (.cells (rcells (s0 z) none 0 0 none 0 0) 42) := ⟨_, rfl⟩
  rw [← hW0] at P2 ⊢
  clear hW0
  obtain ⟨v, hv⟩ : ∃ v, w2.heap.size = v := ⟨_, rfl⟩
  rw [hv] at P2 ⊢
  clear hv S2
  go_loopw [5, 7] (fun p i wr => ∃ (k g r : Nat) (A : Option Addr) (n c : Nat) (A' : Option Addr) (n' c' : Nat) (O : Option Addr) (m d : Nat) (s : St), k ≤ n0 ∧ p = pf g ∧ i = .int .i64 k ∧ PW w wr v g r A n c s A' n' c' O m d s ∧ Inv k s) (fun _ i _ => n0 - (intOf i).toNat)
  case atStart => exact ⟨0, _, _, _, _, _, _, _, _, _, _, _, _, Nat.zero_le _, rfl, rfl, P2.out, inv0 z mo HZ.out⟩
  case round =>
    clear P2
    obtain ⟨k, g, r, A, n, c, A', n', c', O, m, d, s, hk, rfl, rfl, hP, hI⟩ := hrel
    have P := Lib.hid hP
    have I := Lib.hid hI
    clear hP hI
    by_cases hge : n0 ≤ k
    · obtain rfl : k = n0 := by omega
      go_wp2_with fail
      refine (alive_any _).mono ?_
      rintro e w3 ⟨rfl, hk⟩
      have K3 := Lib.hid (P.out.sw.keep.chain0 (Nat.le_refl _) hk)
      clear hk
      go_wp2_with fail
      go_ret
      exact ⟨rfl, K3.out⟩
    have hlt : k < n0 := by omega
    clear hge
    have hkx : (k : Int) < (n0 : Int) := by omega
    have hk0 : (k : Int) < 100 := by omega
    have hl : k < L.length := by have := HLn.out; omega
    have HK2 : Hid (k + 1 ≤ 200) := Lib.hid (by omega)
    obtain ⟨b, o, rfl, a0, a1, a2, a3, a4, a5, a6⟩ := opn_at (HV.out.keep0 P.out.sw.keep) hlt (List.getElem?_eq_getElem hl)
    obtain ⟨x, hx⟩ : ∃ y, L[k] = y := ⟨_, rfl⟩
    rw [hx] at a0 a1 a2 a3 a4 a5 a6
    clear hx hl
    obtain ⟨cl, hcl⟩ : ∃ c, x.call = c := ⟨_, rfl⟩
    rw [hcl] at a0
    have HCL := Lib.hid hcl
    clear hcl
    have P1 : Hid (PW w (wr.alloc (.cells #[.int .i64 cl, .int .i64 x.e.t, .int .i64 x.e.id, .int .i64 x.e.sv, .int .i64 x.e.vl, .int .i64 x.id, .bool x.on] 45)) v g r A n c s A' n' c' O m d s) := Lib.hid (P.out.next ((Keep.refl _ _ wr).alloc (Nat.le_refl _) _))
    have B1 : Hid (Blk (wr.alloc (.cells #[.int .i64 cl, .int .i64 x.e.t, .int .i64 x.e.id, .int .i64 x.e.sv, .int .i64 x.e.vl, .int .i64 x.id, .bool x.on] 45)) wr.heap.size 45 #[.int .i64 cl, .int .i64 x.e.t, .int .i64 x.e.id, .int .i64 x.e.sv, .int .i64 x.e.vl, .int .i64 x.id, .bool x.on]) := Lib.hid (Blk.new _ _ _)
    have HQ : Hid (wr.heap.size ≠ g ∧ wr.heap.size ≠ r ∧ wr.heap.size ∉ blks A) := Lib.hid (by
      have h1 := P.out.sw.sv.blk.lt
      have h2 := P.out.sw.sv.mp.lt
      exact ⟨by omega, by omega, fun h => by have := P.out.sw.sv.sl.blk h; omega⟩)
    have HNN : Hid (n ≤ 1000000) := Lib.hid (by have := P.out.sw.sv.len; have := I.out.l; omega)
    obtain ⟨r0, r1, r2, r3, r4, r5, r6, r7⟩ := rcell8 P1.out.rb
    have hcases : cl = 1 ∨ cl = 2 ∨ cl = 3 ∨ (cl ≠ 1 ∧ cl ≠ 2 ∧ cl ≠ 3) := by omega
    have hfin : Hid (∀ (W : World) (g r : Nat) (A : Option Addr) (n c : Nat) (A' : Option Addr) (n' c' : Nat) (O : Option Addr) (m d : Nat) (s : St), PW w W v g r A n c s A' n' c' O m d s → Inv (k + 1) s → n ≤ 100000) := Lib.hid (fun W g r A n c A' n' c' O m d s h hi => by have := h.sw.sv.len; have := hi.l; omega)
    rcases hcases with rfl | rfl | rfl | ⟨c1, c2, c3⟩
    · go_wp2_with fail
      obtain ⟨W1, hW1⟩ : ∃ W, W = wr.alloc (.cells #[.int .i64 1, .int .i64 x.e.t, .int .i64 x.e.id, .int .i64 x.e.sv, .int .i64 x.e.vl, .int .i64 x.id, .bool x.on] 45) := ⟨_, rfl⟩
      obtain ⟨q, hq⟩ : ∃ q, wr.heap.size = q := ⟨_, rfl⟩
      rw [← hW1] at P1 B1 r0 r1 r2 r3 r4 r5 r6 r7 ⊢
      rw [hq] at B1 HQ ⊢
      clear hW1 hq P a0 a1 a2 a3 a4 a5 a6 HV
      have b1 : W1.cell? ⟨q, 1, none⟩ = some (.int .i64 x.e.t) := B1.out.cell 1
      have b2 : W1.cell? ⟨q, 2, none⟩ = some (.int .i64 x.e.id) := B1.out.cell 2
      have b3 : W1.cell? ⟨q, 3, none⟩ = some (.int .i64 x.e.sv) := B1.out.cell 3
      have b4 : W1.cell? ⟨q, 4, none⟩ = some (.int .i64 x.e.vl) := B1.out.cell 4
      have b5 : W1.cell? ⟨q, 5, none⟩ = some (.int .i64 x.id) := B1.out.cell 5
      have b6 : W1.cell? ⟨q, 6, none⟩ = some (.bool x.on) := B1.out.cell 6
      obtain ⟨s', bb, zz, hpr⟩ := pr_ex s x.e
      have HPR := Lib.hid hpr
      clear hpr
      refine (raise_of _ g r A n c s s' x.e bb zz k (by omega) I.out HPR.out P1.out.sw.sv).mono ?_
      rintro e w3 ⟨A2, n2, c2, rfl, hs, hk, hb⟩
      have P3 := Lib.hid (P1.out.praise hs hk hb)
      have B3 := Lib.hid (B1.out.keepS hk (by simp only [List.mem_cons, not_or]; exact ⟨HQ.out.1, HQ.out.2.2⟩))
      clear hs hk hb b1 b2 b3 b4 b5 b6 r0 r1 r2 r3 r4 r5 r6 r7 P1 B1
      obtain ⟨r0, r1, r2, r3, r4, r5, r6, r7⟩ := rcell8 P3.out.rb
      have b1 : w3.cell? ⟨q, 1, none⟩ = some (.int .i64 x.e.t) := B3.out.cell 1
      have b2 : w3.cell? ⟨q, 2, none⟩ = some (.int .i64 x.e.id) := B3.out.cell 2
      have b3 : w3.cell? ⟨q, 3, none⟩ = some (.int .i64 x.e.sv) := B3.out.cell 3
      have b4 : w3.cell? ⟨q, 4, none⟩ = some (.int .i64 x.e.vl) := B3.out.cell 4
      have b5 : w3.cell? ⟨q, 5, none⟩ = some (.int .i64 x.id) := B3.out.cell 5
      have b6 : w3.cell? ⟨q, 6, none⟩ = some (.bool x.on) := B3.out.cell 6
      go_wp2_with fail
      refine (rraise_of _ s s' A' n' c' O m d x.e bb zz k (by omega) I.out HPR.out P3.out.rs).mono ?_
      rintro e w4 ⟨A4, n4, c4, rfl, hr, hk, hb⟩
      have V4 := Lib.hid (P3.out.rb.keepS hk (by simp))
      have P5 := Lib.hid (P3.out.rset8 hk hr hb (fun y hy => .inl ⟨hy, rfl⟩))
      clear hr hk hb b1 b2 b3 b4 b5 b6 r0 r1 r2 r3 r4 r5 r6 r7 B3
      have f0 := V4.out.frozen 0
      have f1 := V4.out.frozen 1
      have f2 := V4.out.frozen 2
      have f3 := V4.out.frozen 3
      have f4 := V4.out.frozen 4
      have f5 := V4.out.frozen 5
      have f6 := V4.out.frozen 6
      have f7 := V4.out.frozen 7
      obtain ⟨v0, v1, v2, v3, v4, v5, v6, v7⟩ := rcell8 V4.out
      go_wp2_with fail
      refine (agree_any _ g r A2 n2 c2 s' A4 n4 c4 O m d (hfin.out _ _ _ _ _ _ _ _ _ _ _ _ _ P5.out (I.out.raise HPR.out)) (by exact P5.out.sw.sv) (by exact P5.out.rs)).mono ?_
      rintro e w6 ⟨rfl, hk⟩
      have P6 := Lib.hid (P5.out.next hk)
      clear hk
      go_wp2_with fail
      go_roundw
      case rel => exact ⟨k + 1, g, r, A2, n2, c2, A4, n4, c4, O, m, d, s', by omega, rfl, by go_num, P6.out, (I.out.raise HPR.out)⟩
      case measure => simp [intOf] <;> omega
    · go_wp2_with fail
      obtain ⟨W1, hW1⟩ : ∃ W, W = wr.alloc (.cells #[.int .i64 2, .int .i64 x.e.t, .int .i64 x.e.id, .int .i64 x.e.sv, .int .i64 x.e.vl, .int .i64 x.id, .bool x.on] 45) := ⟨_, rfl⟩
      obtain ⟨q, hq⟩ : ∃ q, wr.heap.size = q := ⟨_, rfl⟩
      rw [← hW1] at P1 B1 r0 r1 r2 r3 r4 r5 r6 r7 ⊢
      rw [hq] at B1 HQ ⊢
      clear hW1 hq P a0 a1 a2 a3 a4 a5 a6 HV
      have b1 : W1.cell? ⟨q, 1, none⟩ = some (.int .i64 x.e.t) := B1.out.cell 1
      have b2 : W1.cell? ⟨q, 2, none⟩ = some (.int .i64 x.e.id) := B1.out.cell 2
      have b3 : W1.cell? ⟨q, 3, none⟩ = some (.int .i64 x.e.sv) := B1.out.cell 3
      have b4 : W1.cell? ⟨q, 4, none⟩ = some (.int .i64 x.e.vl) := B1.out.cell 4
      have b5 : W1.cell? ⟨q, 5, none⟩ = some (.int .i64 x.id) := B1.out.cell 5
      have b6 : W1.cell? ⟨q, 6, none⟩ = some (.bool x.on) := B1.out.cell 6
      obtain ⟨⟨s', zz⟩, hen⟩ : ∃ p, enP s x.id x.on = p := ⟨_, rfl⟩
      have HEN := Lib.hid hen
      clear hen
      refine (enable_any _ g r A n c s s' x.id x.on zz HEN.out P1.out.sw.sv).mono ?_
      rintro e w3 ⟨rfl, hs, hk⟩
      have P3 := Lib.hid (P1.out.pen hs hk)
      have B3 := Lib.hid (B1.out.keepS hk (by simpa using HQ.out.2.1))
      clear hs hk b1 b2 b3 b4 b5 b6 r0 r1 r2 r3 r4 r5 r6 r7 P1 B1
      obtain ⟨r0, r1, r2, r3, r4, r5, r6, r7⟩ := rcell8 P3.out.rb
      have b1 : w3.cell? ⟨q, 1, none⟩ = some (.int .i64 x.e.t) := B3.out.cell 1
      have b2 : w3.cell? ⟨q, 2, none⟩ = some (.int .i64 x.e.id) := B3.out.cell 2
      have b3 : w3.cell? ⟨q, 3, none⟩ = some (.int .i64 x.e.sv) := B3.out.cell 3
      have b4 : w3.cell? ⟨q, 4, none⟩ = some (.int .i64 x.e.vl) := B3.out.cell 4
      have b5 : w3.cell? ⟨q, 5, none⟩ = some (.int .i64 x.id) := B3.out.cell 5
      have b6 : w3.cell? ⟨q, 6, none⟩ = some (.bool x.on) := B3.out.cell 6
      go_wp2_with fail
      refine (ren_of _ s s' A' n' c' O m d x.id x.on zz k (by omega) I.out HEN.out P3.out.rs).mono ?_
      rintro e w4 ⟨O4, m4, d4, rfl, hr, hk, hb⟩
      have V4 := Lib.hid (P3.out.rb.keepS hk (by simp))
      have P5 := Lib.hid (P3.out.rset8 hk hr (fun y hy => .inl ⟨hy, rfl⟩) hb)
      clear hr hk hb b1 b2 b3 b4 b5 b6 r0 r1 r2 r3 r4 r5 r6 r7 B3
      have f0 := V4.out.frozen 0
      have f1 := V4.out.frozen 1
      have f2 := V4.out.frozen 2
      have f3 := V4.out.frozen 3
      have f4 := V4.out.frozen 4
      have f5 := V4.out.frozen 5
      have f6 := V4.out.frozen 6
      have f7 := V4.out.frozen 7
      obtain ⟨v0, v1, v2, v3, v4, v5, v6, v7⟩ := rcell8 V4.out
      go_wp2_with fail
      refine (agree_any _ g r A n c s' A' n' c' O4 m4 d4 (hfin.out _ _ _ _ _ _ _ _ _ _ _ _ _ P5.out (I.out.en HEN.out)) (by exact P5.out.sw.sv) (by exact P5.out.rs)).mono ?_
      rintro e w6 ⟨rfl, hk⟩
      have P6 := Lib.hid (P5.out.next hk)
      clear hk
      go_wp2_with fail
      go_roundw
      case rel => exact ⟨k + 1, g, r, A, n, c, A', n', c', O4, m4, d4, s', by omega, rfl, by go_num, P6.out, (I.out.en HEN.out)⟩
      case measure => simp [intOf] <;> omega
    · go_wp2_with fail
      obtain ⟨W1, hW1⟩ : ∃ W, W = wr.alloc (.cells #[.int .i64 3, .int .i64 x.e.t, .int .i64 x.e.id, .int .i64 x.e.sv, .int .i64 x.e.vl, .int .i64 x.id, .bool x.on] 45) := ⟨_, rfl⟩
      obtain ⟨q, hq⟩ : ∃ q, wr.heap.size = q := ⟨_, rfl⟩
      rw [← hW1] at P1 B1 r0 r1 r2 r3 r4 r5 r6 r7 ⊢
      rw [hq] at B1 HQ ⊢
      clear hW1 hq P a0 a1 a2 a3 a4 a5 a6 HV
      clear r0 r1 r2 r3 r4 r5 r6 r7
      refine (sclone_any _ g r A n c s HNN.out P1.out.sw.sv).mono ?_
      rintro e w3 ⟨r2, A2, n2, c2, rfl, hs, hk, hr2, hA2⟩
      obtain ⟨s3, b3, z3, hpr⟩ := pr_ex s ⟨0, 0, 1, 0⟩
      have HPR := Lib.hid hpr
      have P3 := Lib.hid (P1.out.next hk)
      have C3 := Lib.hid hs
      have B3 := Lib.hid (B1.out.keepS hk (by simp))
      have HB : Hid (w.heap.size ≤ W1.heap.size ∧ v < W1.heap.size ∧ (0 < n' → ∀ y, y ∈ blks A' → y < W1.heap.size) ∧ (0 < m → ∀ y, y ∈ blks O → y < W1.heap.size) ∧ W1.heap.size ≤ r2 ∧ (∀ y, y ∈ blks A2 → W1.heap.size ≤ y) ∧ g < W1.heap.size ∧ r < W1.heap.size ∧ ∀ y, y ∈ blks A → y < W1.heap.size) :=
        Lib.hid ⟨P1.out.sw.keep.size, P1.out.rb.lt, fun hn y hy => (P1.out.dA hn y hy).1, fun hn y hy => (P1.out.dO hn y hy).1, hr2, hA2, P1.out.sw.sv.blk.lt, P1.out.sw.sv.mp.lt, fun y hy => P1.out.sw.sv.sl.blk hy⟩
      obtain ⟨g2, hg2⟩ : ∃ g2, W1.heap.size = g2 := ⟨_, rfl⟩
      rw [hg2] at C3 HB ⊢
      clear hpr hs hk hr2 hA2 hg2 P1 B1
      go_wp2_with fail
      refine (raise_of _ g r A n c s s3 ⟨0, 0, 1, 0⟩ b3 z3 k (by omega) I.out HPR.out P3.out.sw.sv).mono ?_
      rintro e w4 ⟨A4, n4, c4, rfl, hs, hk, hb⟩
      have P4 := Lib.hid (P3.out.praise hs hk hb)
      have B4 := Lib.hid (B3.out.keepS hk (by simp only [List.mem_cons, not_or]; exact ⟨HQ.out.1, HQ.out.2.2⟩))
      have C4 := Lib.hid (C3.out.keepS hk (by simp only [List.mem_cons, not_or]; have h := HB.out; exact ⟨by omega, fun hx => by have := h.2.2.2.2.2.2.2.2 _ hx; omega⟩) (by simp only [List.mem_cons, not_or]; have h := HB.out; exact ⟨by omega, fun hx => by have := h.2.2.2.2.2.2.2.2 _ hx; omega⟩)
        (fun y hy => by simp only [List.mem_cons, not_or]; have h := HB.out; have hy2 := h.2.2.2.2.2.1 y hy; exact ⟨by omega, fun hx => by have := h.2.2.2.2.2.2.2.2 _ hx; omega⟩))
      clear hs hk hb P3 B3 C3
      have b1 : w4.cell? ⟨q, 1, none⟩ = some (.int .i64 x.e.t) := B4.out.cell 1
      have b2 : w4.cell? ⟨q, 2, none⟩ = some (.int .i64 x.e.id) := B4.out.cell 2
      have b3 : w4.cell? ⟨q, 3, none⟩ = some (.int .i64 x.e.sv) := B4.out.cell 3
      have b4 : w4.cell? ⟨q, 4, none⟩ = some (.int .i64 x.e.vl) := B4.out.cell 4
      have b5 : w4.cell? ⟨q, 5, none⟩ = some (.int .i64 x.id) := B4.out.cell 5
      have b6 : w4.cell? ⟨q, 6, none⟩ = some (.bool x.on) := B4.out.cell 6
      go_wp2_with fail
      obtain ⟨⟨s5, z5⟩, hen⟩ : ∃ p, enP s3 x.id x.on = p := ⟨_, rfl⟩
      have HEN := Lib.hid hen
      clear hen
      refine (enable_any _ g r A4 n4 c4 s3 s5 x.id x.on z5 HEN.out P4.out.sw.sv).mono ?_
      rintro e w5 ⟨rfl, hs, hk⟩
      have C5 := Lib.hid (C4.out.keepS hk (by have h := HB.out; simp; omega) (by have h := HB.out; simp; omega) (fun y hy => by have h := HB.out; have hy2 := h.2.2.2.2.2.1 y hy; simp; omega))
      have P5 := Lib.hid ((P4.out.pen hs hk).clone C5.out HB.out.1 HB.out.2.1 HB.out.2.2.1 HB.out.2.2.2.1 (Nat.le_refl _) HB.out.2.2.2.2.1 HB.out.2.2.2.2.2.1)
      clear hs hk b1 b2 b3 b4 b5 b6 P4 B4 C4 C5
      obtain ⟨r0, r1, r2', r3, r4, r5, r6, r7⟩ := rcell8 P5.out.rb
      go_wp2_with fail
      refine (agree_any _ g2 r2 A2 n2 c2 s A' n' c' O m d (hfin.out _ _ _ _ _ _ _ _ _ _ _ _ _ P5.out I.out.next) (by exact P5.out.sw.sv) (by exact P5.out.rs)).mono ?_
      rintro e w6 ⟨rfl, hk⟩
      have P6 := Lib.hid (P5.out.next hk)
      clear hk
      go_wp2_with fail
      go_roundw
      case rel => exact ⟨k + 1, g2, r2, A2, n2, c2, A', n', c', O, m, d, s, by omega, rfl, by go_num, P6.out, I.out.next⟩
      case measure => simp [intOf] <;> omega
    · have e1 : (cl == 1) = false := by simpa using c1
      have e2 : (cl == 2) = false := by simpa using c2
      have e3 : (cl == 3) = false := by simpa using c3
      go_wp2_with fail
      refine (agree_any _ g r A n c s A' n' c' O m d (hfin.out _ _ _ _ _ _ _ _ _ _ _ _ _ P1.out I.out.next) (by exact P1.out.sw.sv) (by exact P1.out.rs)).mono ?_
      rintro e w6 ⟨rfl, hk⟩
      have P6 := Lib.hid (P1.out.next hk)
      clear hk
      go_wp2_with fail
      go_roundw
      case rel => exact ⟨k + 1, g, r, A, n, c, A', n', c', O, m, d, s, by omega, rfl, by go_num, P6.out, I.out.next⟩
      case measure => simp [intOf] <;> omega
end Go.Proofs.Ytlceepknoijndaa
