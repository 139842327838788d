/- ranges.normal. -/
import Derived.Test.YtfkbcflgbjncdaaTxR
import Derived.Test.YtfkbcflgbjncdaaTxS
import Derived.Test.YtfkbcflgbjncdaaTxM
import Derived.Test.YtfkbcflgbjncdaaRg
namespace Go.Proofs.Ytfkbcflgbjncdaa
set_option linter.unusedVariables false
set_option linter.unusedSimpArgs false
open Go.RowKit
theorem Sl.setAt {w : World} {e : TypeId} {size n c x : Nat} {xs : List Value} (h : Sl w e size (some ⟨x, 0, none⟩) n c xs) {j : Nat} (hj : j < n * size) (u : Value) : Sl (w.setCell ⟨x, j, none⟩ u) e size (some ⟨x, 0, none⟩) n c (xs.set j u) := by
  refine ⟨by rw [List.length_set]; exact h.1, ?_⟩
  rcases h.2 with ⟨hv, _⟩ | ⟨g, cap, cur, hv, h0, hg, hc, hm, hsz, htk⟩
  · cases hv
  · injection hv with h1 h2 h3
    injection h1 with h4
    injection h4 with h5
    subst h5; subst h3
    refine .inr ⟨x, c, cur.setIfInBounds j u, rfl, h0, Blk.set_ (t := e) hg j u, hc, hm, by simpa using hsz, ?_⟩
    rw [Array.toList_setIfInBounds, List.take_set, htk]
def NmPost (w : World) (L : List Gp) (e : Ending) (w' : World) : Prop :=
  ∃ A c N, e = .returned (.slice A N.length c) ∧ Sl w' TG 2 A N.length c (gcs N) ∧ Nrm N ∧ (∀ z, mem N z ↔ mem L z) ∧ N.length ≤ L.length ∧ Keep w.heap.size [] w w' ∧ ∀ y, y ∈ blks A → w.heap.size ≤ y
set_option maxRecDepth 100000 in
set_option maxHeartbeats 8000000 in
theorem normal_w (w : World) (X : Option Addr) (m c : Nat) (L : List Gp) (hm : m ≤ 100000) (hv : Vw w X m 2 (gcs L)) : Calls Try.prog 138 #[.slice X m c] w (NmPost w L) := by
  have hml : m = L.length := by have := hv.1; rw [gcells_len] at this; omega
  have HV := Lib.hid hv
  have HML := Lib.hid hml
  clear hv hml
  obtain ⟨i0, hi0, hz0, hz1, hz2⟩ := info_parts infoRg
  go_enter Try.func138, Try.ntmps138
  go_wp2_with fail
  refine (rclone_any _ X m c L (by omega) HV.out).mono ?_
  rintro e w1 ⟨A1, c1, rfl, hs1, hk1, hb1⟩
  have S1 := Lib.hid hs1
  have K1 := Lib.hid hk1
  have HB1 := Lib.hid hb1
  clear hs1 hk1 hb1
  go_wp2_with fail
  refine (delete_cl _ A1 m c1 L (by omega) S1.out).mono ?_
  rintro e w2 ⟨m2, rfl, hm2, hmc2, hv2, hk2, hfz2⟩
  have FZ2 := Lib.hid hfz2
  have V2 := Lib.hid hv2
  have K2 : Hid (Keep w.heap.size [] w w2) := Lib.hid (K1.out.chain (Nat.le_refl _) hk2 HB1.out)
  have hfl : (L.filter full).length ≤ L.length := List.length_filter_le _ _
  have HM2 := Lib.hid hm2
  have hm2b : m2 ≤ 100000 := by have := HML.out; omega
  have HFL := Lib.hid hfl
  have hform : A1 = none ∨ ∃ x, A1 = some ⟨x, 0, none⟩ := by
    rcases S1.out.form with ⟨h, _⟩ | ⟨x, h, _⟩
    · exact .inl h
    · exact .inr ⟨x, h⟩
  have HFO := Lib.hid hform
  clear hv2 hk2 hm2 hfl hfz2 hform
  go_wp2_with fail
  refine (sort_any _ A1 m2 c1 (L.filter full) hm2b V2.out (fun x j h _ => FZ2.out x j h) HFO.out).mono ?_
  rintro e w3 ⟨rfl, S, hperm, hsort, hv3, hk3⟩
  have V3 := Lib.hid hv3
  have K3 : Hid (Keep w.heap.size [] w w3) := Lib.hid (K2.out.chain (Nat.le_refl _) hk3 HB1.out)
  have PM := Lib.hid hperm
  have SO := Lib.hid hsort
  have HSL : Hid (m2 = S.length) := Lib.hid (by rw [hperm.length_eq]; exact HM2.out)
  have HFU : Hid (∀ r ∈ S, r.f < r.t) := Lib.hid (fun r hr => by have := (List.mem_filter.1 (hperm.mem_iff.1 hr)).2; simpa [full] using this)
  clear hperm hsort hv3 hk3
  have hmcI : (m2 : Int) ≤ (c1 : Int) := by omega
  go_wp2_with fail
  go_loopw [4, 15] (fun oo jj wr => ∃ (k : Nat) (A : Option Addr) (n c : Nat) (N : List Gp), k ≤ m2 ∧ jj = .int .i64 k ∧ oo = .slice A n c ∧ Sl wr TG 2 A n c (gcs N) ∧ N.length = n ∧ n ≤ k ∧ Nrm N ∧ (∀ z, mem N z ↔ mem (S.take k) z) ∧ (∀ a ∈ N, ∀ r ∈ S.drop k, a.f ≤ r.f) ∧ Keep w3.heap.size [] w3 wr ∧ ∀ y, y ∈ blks A → w3.heap.size ≤ y) (fun _ jj _ => m2 - (intOf jj).toNat)
  case atStart => exact ⟨0, none, 0, 0, [], Nat.zero_le _, rfl, rfl, Sl.nil _ _ _, rfl, Nat.le_refl _, nrm_nil, (fun z => by rw [List.take_zero]), (fun a ha => by cases ha), Keep.refl _ _ _, by simp [blks]⟩
  case round =>
    obtain ⟨k, A, n, cN, N, hk, rfl, rfl, hsl, hNl, hnk, hnrm, hmem, hord, hkw, hbA⟩ := hrel
    have SL := Lib.hid hsl
    have NL := Lib.hid hNl
    have NR := Lib.hid hnrm
    have ME := Lib.hid hmem
    have OD := Lib.hid hord
    have KW := Lib.hid hkw
    have BA := Lib.hid hbA
    have hcap := hsl.cap
    clear hsl hNl hnrm hmem hord hkw hbA
    by_cases hlt : k < m2
    · have hki : (k : Int) < (m2 : Int) := by omega
      obtain ⟨b, o', r, rfl, hrk, d0, d1⟩ := gap_at (V3.out.keep0 KW.out) hlt
      have hrf : r.f < r.t := HFU.out r (List.mem_of_getElem? hrk)
      have hord2 : ∀ a ∈ S.drop (k + 1), r.f ≤ a.f := fun a ha => by
        have hd := drop_cons hrk
        have h := List.Pairwise.sublist (List.drop_sublist k S) SO.out
        rw [hd] at h
        exact (List.pairwise_cons.1 h).1 a ha
      have hmemk : ∀ z, mem (S.take (k + 1)) z ↔ mem (S.take k) z ∨ (r.f ≤ z ∧ z < r.t) := fun z => by
        rw [List.take_add_one, hrk, mem_app]; simp [mem_one]
      have hNr : ∀ a ∈ N, a.f ≤ r.f := fun a ha => OD.out a ha r (by rw [drop_cons hrk]; simp)
      have hdsub : ∀ a, a ∈ S.drop (k + 1) → a ∈ S.drop k := fun a ha => by rw [drop_cons hrk]; simp [ha]
      obtain ⟨W1, hW1⟩ : ∃ W, W = wr.alloc (.cells #[.int .i64 r.f, .int .i64 r.t] TG) := ⟨_, rfl⟩
      obtain ⟨p, hp⟩ : ∃ p, p = wr.heap.size := ⟨_, rfl⟩
      have ka : Keep wr.heap.size [] wr W1 := by rw [hW1]; exact (Keep.refl _ _ _).alloc (Nat.le_refl _) _
      have Q1 : Hid (Blk W1 p TG #[.int .i64 r.f, .int .i64 r.t]) := Lib.hid (by rw [hW1, hp]; exact Blk.new _ _ _)
      have SL1 := Lib.hid (SL.out.keep0 ka)
      have KW1 := Lib.hid (KW.out.chain0 (Nat.le_refl _) ka)
      have hpA : Hid (∀ y, y ∈ blks A → y ≠ p) := Lib.hid (fun y hy => by have := SL.out.blk hy; omega)
      have RK := Lib.hid hrk
      have HO2 := Lib.hid hord2
      have HMK := Lib.hid hmemk
      have HNR := Lib.hid hNr
      have HDS := Lib.hid hdsub
      clear hrk hord2 hmemk hNr hdsub ka
      go_upto_region 8 with fail
      change Code.wp _ _ _ _ (wr.alloc (.cells #[.int .i64 r.f, .int .i64 r.t] TG))
      rw [← hW1, ← hp]
      clear hW1 hp
      rcases List.eq_nil_or_concat N with hN | ⟨I, o, hN⟩
      · have hn0 : n = 0 := by rw [← NL.out, hN]; rfl
        subst hn0
        subst hN
        have y0 : W1.drew.cell? ⟨p, 0, none⟩ = some (.int .i64 r.f) ∧ W1.drew.cell? ⟨p, 1, none⟩ = some (.int .i64 r.t) := ⟨Q1.out.cell 0, Q1.out.cell 1⟩
        go_wp2_with fail
        refine wp_region_held_drew (S := (fun w' => w'.cell? ⟨p, 0, none⟩ = some (.int .i64 r.f) ∧ w'.cell? ⟨p, 1, none⟩ = some (.int .i64 r.t))) (by kernel_rfl) (by exact y0) (fun hHeld => ?_)
        refine tkH (i := 0) (oi := { dst := some 21, op := Op.move (Operand.tmp 7), type := 3, pos := _, after := _, guard := none }) rfl (by assumption) ?_
        (try simp only [Act.put, List.setIfInBounds_toArray, List.set_cons_zero, List.set_cons_succ])
        refine tkH (i := 1) (oi := { dst := some 22, op := Op.binOp BinOp.gtr 3 (Operand.tmp 21) (Operand.const (Value.int IntKind.i64 0)) 3, type := 4, pos := _, after := _, guard := none }) rfl (by assumption) ?_
        (try simp only [Act.put, List.setIfInBounds_toArray, List.set_cons_zero, List.set_cons_succ])
        refine tkH (i := 2) (oi := { dst := some 23, op := Op.move (Operand.tmp 22), type := 4, pos := _, after := _, guard := none }) rfl (by assumption) ?_
        (try simp only [Act.put, List.setIfInBounds_toArray, List.set_cons_zero, List.set_cons_succ])
        refine skH (i := 3) (oi := { dst := some 24, op := Op.move (Operand.tmp 4), type := 83, pos := _, after := _, guard := some (2, true) }) rfl (by assumption) ?_
        (try simp only [Act.put, List.setIfInBounds_toArray, List.set_cons_zero, List.set_cons_succ])
        refine skH (i := 4) (oi := { dst := some 25, op := Op.move (Operand.tmp 7), type := 3, pos := _, after := _, guard := some (2, true) }) rfl (by assumption) ?_
        (try simp only [Act.put, List.setIfInBounds_toArray, List.set_cons_zero, List.set_cons_succ])
        refine skH (i := 5) (oi := { dst := some 26, op := Op.binOp BinOp.sub 3 (Operand.tmp 25) (Operand.const (Value.int IntKind.i64 1)) 3, type := 3, pos := _, after := _, guard := some (2, true) }) rfl (by assumption) ?_
        (try simp only [Act.put, List.setIfInBounds_toArray, List.set_cons_zero, List.set_cons_succ])
        refine skH (i := 6) (oi := { dst := some 27, op := Op.indexAddr 83 (Operand.tmp 24) (Operand.tmp 26), type := 0, pos := _, after := _, guard := some (2, true) }) rfl (by assumption) ?_
        (try simp only [Act.put, List.setIfInBounds_toArray, List.set_cons_zero, List.set_cons_succ])
        refine skH (i := 7) (oi := { dst := some 28, op := Op.fieldAddr 158 (Operand.tmp 27) 1, type := 0, pos := _, after := _, guard := some (2, true) }) rfl (by assumption) ?_
        (try simp only [Act.put, List.setIfInBounds_toArray, List.set_cons_zero, List.set_cons_succ])
        refine skH (i := 8) (oi := { dst := some 29, op := Op.load 3 (Operand.tmp 28), type := 3, pos := _, after := _, guard := some (2, true) }) rfl (by assumption) ?_
        (try simp only [Act.put, List.setIfInBounds_toArray, List.set_cons_zero, List.set_cons_succ])
        refine skH (i := 9) (oi := { dst := some 30, op := Op.fieldAddr 158 (Operand.tmp 6) 0, type := 0, pos := _, after := _, guard := some (2, true) }) rfl (by assumption) ?_
        (try simp only [Act.put, List.setIfInBounds_toArray, List.set_cons_zero, List.set_cons_succ])
        refine skH (i := 10) (oi := { dst := some 31, op := Op.load 3 (Operand.tmp 30), type := 3, pos := _, after := _, guard := some (2, true) }) rfl (by assumption) ?_
        (try simp only [Act.put, List.setIfInBounds_toArray, List.set_cons_zero, List.set_cons_succ])
        refine skH (i := 11) (oi := { dst := some 32, op := Op.binOp BinOp.geq 3 (Operand.tmp 29) (Operand.tmp 31) 3, type := 4, pos := _, after := _, guard := some (2, true) }) rfl (by assumption) ?_
        (try simp only [Act.put, List.setIfInBounds_toArray, List.set_cons_zero, List.set_cons_succ])
        refine tkH (i := 12) (oi := { dst := some 33, op := Op.pick (Operand.tmp 23) (Operand.tmp 32) (Operand.const (Value.bool false)), type := 4, pos := _, after := _, guard := none }) rfl (by assumption) ?_
        (try simp only [Act.put, List.setIfInBounds_toArray, List.set_cons_zero, List.set_cons_succ])
        refine wpAnyH_done (by kernel_rfl) ?_ _
        have SLD : Hid (Sl W1.drew TG 2 A 0 cN (gcs [])) := Lib.hid SL1.out.drew
        have KWD : Hid (Keep w3.heap.size [] w3 W1.drew) := Lib.hid KW1.out.drew
        have y0' : W1.drew.cell? ⟨p, 0, none⟩ = some (.int .i64 r.f) := y0.1
        have y1' : W1.drew.cell? ⟨p, 1, none⟩ = some (.int .i64 r.t) := y0.2
        go_wp2_with (
          at_builtin
          refine wpList_app1 _ rfl (.tmp 48) (.tmp 50) 83 rfl 158 i0 _ 2 16 Try.underlying83 hi0 hz0 hz1 hz2 rfl (by omega) A 0 cN (gcs []) rfl (by exact SLD.out.alloc _) _ _ _ rfl (by exact Blk.new _ _ _) rfl rfl (by omega) (by omega) ?_
          intro A5 c5 W5 hs5 hk5 hb5
          have S5 := Lib.hid hs5
          have ka : Keep W1.drew.heap.size [] W1.drew (W1.drew.alloc (.cells #[.int .i64 r.f, .int .i64 r.t] TG)) := (Keep.refl _ _ _).alloc (Nat.le_refl _) _
          have kz := ka.size
          have K6 : Hid (Keep w3.heap.size [] w3 W5) := Lib.hid ((KWD.out.chain0 (Nat.le_refl _) ka).trans (hk5.mono (Nat.le_trans KWD.out.size kz) (fun y hy hm => absurd (BA.out y hm) (by omega))))
          have B6 : Hid (∀ y, y ∈ blks A5 → w3.heap.size ≤ y) := Lib.hid (fun y hy => by
            have h9 := KWD.out.size
            rcases hb5 y hy with h8 | h8
            · exact BA.out y h8
            · rw [h8]; exact Nat.le_trans h9 kz)
          clear hs5 hk5 hb5 ka kz)
        go_roundw
        case rel =>
          refine ⟨k + 1, A5, 1, c5, [r], by omega, by go_num, rfl, S5.out, rfl, by omega, nrm_one hrf, (fun z => ?_), (fun a ha x hx => ?_), K6.out, B6.out⟩
          · rw [HMK.out, ← ME.out, mem_one]; simp [mem_nil]
          · rcases List.mem_singleton.1 ha with rfl
            exact HO2.out x hx
        case measure => simp [intOf] <;> omega
      · rw [List.concat_eq_append] at hN
        subst hN
        obtain ⟨q, hq⟩ : ∃ q, q = I.length := ⟨_, rfl⟩
        have hnq : n = q + 1 := by rw [← NL.out, List.length_append, hq]; rfl
        have e1 : (n : Int) - 1 = (q : Int) := by omega
        have ew1 : IntKind.i64.wrap (q : Int) = (q : Int) := by rw [IntKind.wrap_i64]; omega
        have hn0 : 0 < n := by omega
        have hn0i : (0 : Int) < (n : Int) := by omega
        have hqn : (q : Int) < (n : Int) := by omega
        have hqn2 : q < n := by omega
        have hIo : (I ++ [o])[q]? = some o := by rw [hq, List.getElem?_append_right (Nat.le_refl _), Nat.sub_self]; rfl
        have hgl : (gcs (I ++ [o]))[q * 2 + 1]? = some (.int .i64 o.t) := by
          rw [flat_get (f := gcells) (n := 2) (fun _ => rfl) (I ++ [o]) q _ 1 hIo (by omega)]; rfl
        obtain ⟨xb, rfl, hxl, hxt⟩ : ∃ x, A = some ⟨x, 0, none⟩ ∧ x < W1.heap.size ∧ W1.cell? ⟨x, q * 2 + 1, none⟩ = some (.int .i64 o.t) := by
          obtain ⟨x, h1, h2, h3⟩ := SL1.out.cell (j := q * 2 + 1) (by omega)
          exact ⟨x, h1, h2, by rw [h3, hgl]⟩
        have hof : o.f ≤ r.f := HNR.out o (by simp)
        have hcI : (cN : Int) ≤ 9223372036854775807 := by have := hcap.2; unfold maxLen at this; omega
        have HQ := Lib.hid hq
        have HNQ := Lib.hid hnq
        clear hq hIo hgl hnq
        have y0 : W1.drew.cell? ⟨p, 0, none⟩ = some (.int .i64 r.f) ∧ W1.drew.cell? ⟨p, 1, none⟩ = some (.int .i64 r.t) ∧ W1.drew.cell? ⟨xb, q * 2 + 1, none⟩ = some (.int .i64 o.t) := ⟨Q1.out.cell 0, Q1.out.cell 1, hxt⟩
        have SLD : Hid (Sl W1.drew TG 2 (some ⟨xb, 0, none⟩) n cN (gcs (I ++ [o]))) := Lib.hid SL1.out.drew
        have KWD : Hid (Keep w3.heap.size [] w3 W1.drew) := Lib.hid KW1.out.drew
        by_cases hj : o.t < r.f
        · go_wp2_with fail
          refine wp_region_held_drew (S := (fun w' => w'.cell? ⟨p, 0, none⟩ = some (.int .i64 r.f) ∧ w'.cell? ⟨p, 1, none⟩ = some (.int .i64 r.t) ∧ w'.cell? ⟨xb, q * 2 + 1, none⟩ = some (.int .i64 o.t))) (by kernel_rfl) (by exact y0) (fun hHeld => ?_)
          refine tkH (i := 0) (oi := { dst := some 21, op := Op.move (Operand.tmp 7), type := 3, pos := _, after := _, guard := none }) rfl (by assumption) ?_
          (try simp only [Act.put, List.setIfInBounds_toArray, List.set_cons_zero, List.set_cons_succ])
          refine tkH (i := 1) (oi := { dst := some 22, op := Op.binOp BinOp.gtr 3 (Operand.tmp 21) (Operand.const (Value.int IntKind.i64 0)) 3, type := 4, pos := _, after := _, guard := none }) rfl (by assumption) ?_
          (try simp only [Act.put, List.setIfInBounds_toArray, List.set_cons_zero, List.set_cons_succ])
          refine tkH (i := 2) (oi := { dst := some 23, op := Op.move (Operand.tmp 22), type := 4, pos := _, after := _, guard := none }) rfl (by assumption) ?_
          (try simp only [Act.put, List.setIfInBounds_toArray, List.set_cons_zero, List.set_cons_succ])
          refine tkH (i := 3) (oi := { dst := some 24, op := Op.move (Operand.tmp 4), type := 83, pos := _, after := _, guard := some (2, true) }) rfl (by assumption) ?_
          (try simp only [Act.put, List.setIfInBounds_toArray, List.set_cons_zero, List.set_cons_succ])
          refine tkH (i := 4) (oi := { dst := some 25, op := Op.move (Operand.tmp 7), type := 3, pos := _, after := _, guard := some (2, true) }) rfl (by assumption) ?_
          (try simp only [Act.put, List.setIfInBounds_toArray, List.set_cons_zero, List.set_cons_succ])
          refine tkH (i := 5) (oi := { dst := some 26, op := Op.binOp BinOp.sub 3 (Operand.tmp 25) (Operand.const (Value.int IntKind.i64 1)) 3, type := 3, pos := _, after := _, guard := some (2, true) }) rfl (by assumption) ?_
          (try simp only [Act.put, List.setIfInBounds_toArray, List.set_cons_zero, List.set_cons_succ])
          refine tkH (i := 6) (oi := { dst := some 27, op := Op.indexAddr 83 (Operand.tmp 24) (Operand.tmp 26), type := 0, pos := _, after := _, guard := some (2, true) }) rfl (by assumption) ?_
          (try simp only [Act.put, List.setIfInBounds_toArray, List.set_cons_zero, List.set_cons_succ])
          refine tkH (i := 7) (oi := { dst := some 28, op := Op.fieldAddr 158 (Operand.tmp 27) 1, type := 0, pos := _, after := _, guard := some (2, true) }) rfl (by assumption) ?_
          (try simp only [Act.put, List.setIfInBounds_toArray, List.set_cons_zero, List.set_cons_succ])
          refine tkH (i := 8) (oi := { dst := some 29, op := Op.load 3 (Operand.tmp 28), type := 3, pos := _, after := _, guard := some (2, true) }) rfl (by assumption) ?_
          (try simp only [Act.put, List.setIfInBounds_toArray, List.set_cons_zero, List.set_cons_succ])
          refine tkH (i := 9) (oi := { dst := some 30, op := Op.fieldAddr 158 (Operand.tmp 6) 0, type := 0, pos := _, after := _, guard := some (2, true) }) rfl (by assumption) ?_
          (try simp only [Act.put, List.setIfInBounds_toArray, List.set_cons_zero, List.set_cons_succ])
          refine tkH (i := 10) (oi := { dst := some 31, op := Op.load 3 (Operand.tmp 30), type := 3, pos := _, after := _, guard := some (2, true) }) rfl (by assumption) ?_
          (try simp only [Act.put, List.setIfInBounds_toArray, List.set_cons_zero, List.set_cons_succ])
          refine tkH (i := 11) (oi := { dst := some 32, op := Op.binOp BinOp.geq 3 (Operand.tmp 29) (Operand.tmp 31) 3, type := 4, pos := _, after := _, guard := some (2, true) }) rfl (by assumption) ?_
          (try simp only [Act.put, List.setIfInBounds_toArray, List.set_cons_zero, List.set_cons_succ])
          refine tkH (i := 12) (oi := { dst := some 33, op := Op.pick (Operand.tmp 23) (Operand.tmp 32) (Operand.const (Value.bool false)), type := 4, pos := _, after := _, guard := none }) rfl (by assumption) ?_
          (try simp only [Act.put, List.setIfInBounds_toArray, List.set_cons_zero, List.set_cons_succ])
          refine wpAnyH_done (by kernel_rfl) ?_ _
          have y0' : W1.drew.cell? ⟨p, 0, none⟩ = some (.int .i64 r.f) := y0.1
          have y1' : W1.drew.cell? ⟨p, 1, none⟩ = some (.int .i64 r.t) := y0.2.1
          go_wp2_with (
            at_builtin
            refine wpList_app1 _ rfl (.tmp 48) (.tmp 50) 83 rfl 158 i0 _ 2 16 Try.underlying83 hi0 hz0 hz1 hz2 rfl (by omega) (some ⟨xb, 0, none⟩) n cN (gcs (I ++ [o])) rfl (by exact SLD.out.alloc _) _ _ _ rfl (by exact Blk.new _ _ _) rfl rfl (by omega) (by omega) ?_
            intro A5 c5 W5 hs5 hk5 hb5
            have S5 := Lib.hid hs5
            have ka : Keep W1.drew.heap.size [] W1.drew (W1.drew.alloc (.cells #[.int .i64 r.f, .int .i64 r.t] TG)) := (Keep.refl _ _ _).alloc (Nat.le_refl _) _
            have kz := ka.size
            have K6 : Hid (Keep w3.heap.size [] w3 W5) := Lib.hid ((KWD.out.chain0 (Nat.le_refl _) ka).trans (hk5.mono (Nat.le_trans KWD.out.size kz) (fun y hy hm => absurd (BA.out y hm) (by omega))))
            have B6 : Hid (∀ y, y ∈ blks A5 → w3.heap.size ≤ y) := Lib.hid (fun y hy => by
              have h9 := KWD.out.size
              rcases hb5 y hy with h8 | h8
              · exact BA.out y h8
              · rw [h8]; exact Nat.le_trans h9 kz)
            clear hs5 hk5 hb5 ka kz)
          go_roundw
          case rel =>
            refine ⟨k + 1, A5, n + 1, c5, (I ++ [o]) ++ [r], by omega, by go_num, rfl, ?_, by rw [List.length_append, NL.out]; rfl, by omega, nrm_next NR.out hrf hj, (fun z => ?_), (fun a ha x hx => ?_), K6.out, B6.out⟩
            · have e : gcs ((I ++ [o]) ++ [r]) = gcs (I ++ [o]) ++ [.int .i64 r.f, .int .i64 r.t] := by simp [gcs, gcells]
              rw [e]; exact S5.out
            · rw [HMK.out, ← ME.out, mem_app (I ++ [o]) [r], mem_one]
            · rcases List.mem_append.1 ha with ha | ha
              · exact OD.out a ha x (HDS.out x hx)
              · rcases List.mem_singleton.1 ha with rfl
                exact HO2.out x hx
          case measure => simp [intOf] <;> omega
        · have hj2 : r.f ≤ o.t := by omega
          have hMx : Hid (max o.t r.t = (if o.t < r.t then r.t else o.t)) := Lib.hid (by split <;> omega)
          go_wp2_with fail
          refine wp_region_held_drew (S := (fun w' => w'.cell? ⟨p, 0, none⟩ = some (.int .i64 r.f) ∧ w'.cell? ⟨p, 1, none⟩ = some (.int .i64 r.t) ∧ w'.cell? ⟨xb, q * 2 + 1, none⟩ = some (.int .i64 o.t))) (by kernel_rfl) (by exact y0) (fun hHeld => ?_)
          refine tkH (i := 0) (oi := { dst := some 21, op := Op.move (Operand.tmp 7), type := 3, pos := _, after := _, guard := none }) rfl (by assumption) ?_
          (try simp only [Act.put, List.setIfInBounds_toArray, List.set_cons_zero, List.set_cons_succ])
          refine tkH (i := 1) (oi := { dst := some 22, op := Op.binOp BinOp.gtr 3 (Operand.tmp 21) (Operand.const (Value.int IntKind.i64 0)) 3, type := 4, pos := _, after := _, guard := none }) rfl (by assumption) ?_
          (try simp only [Act.put, List.setIfInBounds_toArray, List.set_cons_zero, List.set_cons_succ])
          refine tkH (i := 2) (oi := { dst := some 23, op := Op.move (Operand.tmp 22), type := 4, pos := _, after := _, guard := none }) rfl (by assumption) ?_
          (try simp only [Act.put, List.setIfInBounds_toArray, List.set_cons_zero, List.set_cons_succ])
          refine tkH (i := 3) (oi := { dst := some 24, op := Op.move (Operand.tmp 4), type := 83, pos := _, after := _, guard := some (2, true) }) rfl (by assumption) ?_
          (try simp only [Act.put, List.setIfInBounds_toArray, List.set_cons_zero, List.set_cons_succ])
          refine tkH (i := 4) (oi := { dst := some 25, op := Op.move (Operand.tmp 7), type := 3, pos := _, after := _, guard := some (2, true) }) rfl (by assumption) ?_
          (try simp only [Act.put, List.setIfInBounds_toArray, List.set_cons_zero, List.set_cons_succ])
          refine tkH (i := 5) (oi := { dst := some 26, op := Op.binOp BinOp.sub 3 (Operand.tmp 25) (Operand.const (Value.int IntKind.i64 1)) 3, type := 3, pos := _, after := _, guard := some (2, true) }) rfl (by assumption) ?_
          (try simp only [Act.put, List.setIfInBounds_toArray, List.set_cons_zero, List.set_cons_succ])
          refine tkH (i := 6) (oi := { dst := some 27, op := Op.indexAddr 83 (Operand.tmp 24) (Operand.tmp 26), type := 0, pos := _, after := _, guard := some (2, true) }) rfl (by assumption) ?_
          (try simp only [Act.put, List.setIfInBounds_toArray, List.set_cons_zero, List.set_cons_succ])
          refine tkH (i := 7) (oi := { dst := some 28, op := Op.fieldAddr 158 (Operand.tmp 27) 1, type := 0, pos := _, after := _, guard := some (2, true) }) rfl (by assumption) ?_
          (try simp only [Act.put, List.setIfInBounds_toArray, List.set_cons_zero, List.set_cons_succ])
          refine tkH (i := 8) (oi := { dst := some 29, op := Op.load 3 (Operand.tmp 28), type := 3, pos := _, after := _, guard := some (2, true) }) rfl (by assumption) ?_
          (try simp only [Act.put, List.setIfInBounds_toArray, List.set_cons_zero, List.set_cons_succ])
          refine tkH (i := 9) (oi := { dst := some 30, op := Op.fieldAddr 158 (Operand.tmp 6) 0, type := 0, pos := _, after := _, guard := some (2, true) }) rfl (by assumption) ?_
          (try simp only [Act.put, List.setIfInBounds_toArray, List.set_cons_zero, List.set_cons_succ])
          refine tkH (i := 10) (oi := { dst := some 31, op := Op.load 3 (Operand.tmp 30), type := 3, pos := _, after := _, guard := some (2, true) }) rfl (by assumption) ?_
          (try simp only [Act.put, List.setIfInBounds_toArray, List.set_cons_zero, List.set_cons_succ])
          refine tkH (i := 11) (oi := { dst := some 32, op := Op.binOp BinOp.geq 3 (Operand.tmp 29) (Operand.tmp 31) 3, type := 4, pos := _, after := _, guard := some (2, true) }) rfl (by assumption) ?_
          (try simp only [Act.put, List.setIfInBounds_toArray, List.set_cons_zero, List.set_cons_succ])
          refine tkH (i := 12) (oi := { dst := some 33, op := Op.pick (Operand.tmp 23) (Operand.tmp 32) (Operand.const (Value.bool false)), type := 4, pos := _, after := _, guard := none }) rfl (by assumption) ?_
          (try simp only [Act.put, List.setIfInBounds_toArray, List.set_cons_zero, List.set_cons_succ])
          refine wpAnyH_done (by kernel_rfl) ?_ _
          obtain ⟨cs, hbc, _, _, _, _⟩ := SL1.out.blkof
          have x9 : W1.drew.drew.cell? ⟨xb, q * 2 + 1, none⟩ = some (.int .i64 o.t) := hxt
          have z9 : W1.drew.drew.frozen? ⟨xb, q * 2 + 1, none⟩ = false := hbc.frozen _
          go_wp2_with fail
          refine region_anyZ 14 (S := (fun w' => w'.cell? ⟨p, 0, none⟩ = some (.int .i64 r.f) ∧ w'.cell? ⟨p, 1, none⟩ = some (.int .i64 r.t) ∧ w'.cell? ⟨xb, q * 2 + 1, none⟩ = some (.int .i64 o.t))) (by kernel_rfl) (by exact y0) (fun hHeld => ?_)
          refine tkZ (i := 0) (oi := { dst := some 34, op := Op.move (Operand.tmp 4), type := 83, pos := _, after := _, guard := none }) rfl hHeld ?_
          (try simp only [Act.put, List.setIfInBounds_toArray, List.set_cons_zero, List.set_cons_succ])
          refine tkZ (i := 1) (oi := { dst := some 35, op := Op.move (Operand.tmp 7), type := 3, pos := _, after := _, guard := none }) rfl hHeld ?_
          (try simp only [Act.put, List.setIfInBounds_toArray, List.set_cons_zero, List.set_cons_succ])
          refine tkZ (i := 2) (oi := { dst := some 36, op := Op.binOp BinOp.sub 3 (Operand.tmp 35) (Operand.const (Value.int IntKind.i64 1)) 3, type := 3, pos := _, after := _, guard := none }) rfl hHeld ?_
          (try simp only [Act.put, List.setIfInBounds_toArray, List.set_cons_zero, List.set_cons_succ])
          refine tkZ (i := 3) (oi := { dst := some 37, op := Op.move (Operand.tmp 4), type := 83, pos := _, after := _, guard := none }) rfl hHeld ?_
          (try simp only [Act.put, List.setIfInBounds_toArray, List.set_cons_zero, List.set_cons_succ])
          refine tkZ (i := 4) (oi := { dst := some 38, op := Op.move (Operand.tmp 7), type := 3, pos := _, after := _, guard := none }) rfl hHeld ?_
          (try simp only [Act.put, List.setIfInBounds_toArray, List.set_cons_zero, List.set_cons_succ])
          refine tkZ (i := 5) (oi := { dst := some 39, op := Op.binOp BinOp.sub 3 (Operand.tmp 38) (Operand.const (Value.int IntKind.i64 1)) 3, type := 3, pos := _, after := _, guard := none }) rfl hHeld ?_
          (try simp only [Act.put, List.setIfInBounds_toArray, List.set_cons_zero, List.set_cons_succ])
          refine tkZ (i := 6) (oi := { dst := some 40, op := Op.indexAddr 83 (Operand.tmp 37) (Operand.tmp 39), type := 0, pos := _, after := _, guard := none }) rfl hHeld ?_
          (try simp only [Act.put, List.setIfInBounds_toArray, List.set_cons_zero, List.set_cons_succ])
          refine tkZ (i := 7) (oi := { dst := some 41, op := Op.fieldAddr 158 (Operand.tmp 40) 1, type := 0, pos := _, after := _, guard := none }) rfl hHeld ?_
          (try simp only [Act.put, List.setIfInBounds_toArray, List.set_cons_zero, List.set_cons_succ])
          refine tkZ (i := 8) (oi := { dst := some 42, op := Op.load 3 (Operand.tmp 41), type := 3, pos := _, after := _, guard := none }) rfl hHeld ?_
          (try simp only [Act.put, List.setIfInBounds_toArray, List.set_cons_zero, List.set_cons_succ])
          refine tkZ (i := 9) (oi := { dst := some 43, op := Op.fieldAddr 158 (Operand.tmp 6) 1, type := 0, pos := _, after := _, guard := none }) rfl hHeld ?_
          (try simp only [Act.put, List.setIfInBounds_toArray, List.set_cons_zero, List.set_cons_succ])
          refine tkZ (i := 10) (oi := { dst := some 44, op := Op.load 3 (Operand.tmp 43), type := 3, pos := _, after := _, guard := none }) rfl hHeld ?_
          (try simp only [Act.put, List.setIfInBounds_toArray, List.set_cons_zero, List.set_cons_succ])
          refine tkZ (i := 11) (oi := { dst := some 45, op := Op.call { callee := Callee.builtin Builtin.max, args := #[Operand.tmp 42, Operand.tmp 44], argTypes := #[3, 3] }, type := 3, pos := _, after := _, guard := none }) rfl hHeld ?_
          (try simp only [Act.put, List.setIfInBounds_toArray, List.set_cons_zero, List.set_cons_succ])
          refine anyZ.takeU (i := 12) (oi := { dst := some 46, op := Op.indexAddr 83 (Operand.tmp 34) (Operand.tmp 36), type := 0, pos := _, after := _, guard := none }) (v := _) rfl (by decide) (by kernel_rfl) (by kernel_rfl) (by kernel_rfl) (fun _ _ _ h => h) (Or.inl ⟨by rfl, by (intro wS hSw; (try dsimp only at hSw); go_simp; try with_reducible rfl)⟩) (by exact hHeld) ?_
          (try simp only [Act.put, List.setIfInBounds_toArray, List.set_cons_zero, List.set_cons_succ])
          refine tkZ (i := 13) (oi := { dst := some 47, op := Op.fieldAddr 158 (Operand.tmp 46) 1, type := 0, pos := _, after := _, guard := none }) rfl hHeld ?_
          (try simp only [Act.put, List.setIfInBounds_toArray, List.set_cons_zero, List.set_cons_succ])
          refine anyZ.ready (rs := [14]) (by kernel_rfl) (by simp) ?_
          refine (AllZ.cons (o := { dst := none, op := Op.store 3 (Operand.tmp 47) (Operand.tmp 45), type := 0, pos := _, after := _, guard := none }) rfl (fun K hK => ?_) AllZ.nil)
          go_simp
          skip
          refine hK.out _ _ (fun h => absurd h (by decide)) (fun hHeld => ?_)
          clear hK K
          (try simp only [Act.put, List.setIfInBounds_toArray, List.set_cons_zero, List.set_cons_succ])
          refine anyZ.done (by kernel_rfl) ?_ _
          clear hHeld
          skip
          have S9 := Lib.hid (Sl.setAt (w := W1.drew.drew) SL1.out (j := q * 2 + 1) (by omega) (.int .i64 (if o.t < r.t then r.t else o.t)))
          obtain ⟨o2, ho2⟩ : ∃ o2 : Gp, o2 = ⟨o.f, if o.t < r.t then r.t else o.t⟩ := ⟨_, rfl⟩
          have ho2f : o2.f = o.f := by rw [ho2]
          have HO2F := Lib.hid ho2f
          clear ho2f
          have e9 : (gcs (I ++ [o])).set (q * 2 + 1) (.int .i64 (if o.t < r.t then r.t else o.t)) = gcs (I ++ [o2]) := by
            rw [ho2]
            have h1 : gcs (I ++ [o]) = gcs I ++ [.int .i64 o.f, .int .i64 o.t] := by simp [gcs, gcells]
            have h2 : gcs (I ++ [⟨o.f, if o.t < r.t then r.t else o.t⟩]) = gcs I ++ [.int .i64 o.f, .int .i64 (if o.t < r.t then r.t else o.t)] := by simp [gcs, gcells]
            have h3 : (gcs I).length = q * 2 := by rw [gcells_len, HQ.out]
            rw [h1, h2, List.set_append_right _ _ (by omega), h3, show q * 2 + 1 - q * 2 = 1 by omega]
            rfl
          have S10 : Hid (Sl (W1.setCell ⟨xb, q * 2 + 1, none⟩ (.int .i64 (if o.t < r.t then r.t else o.t))).drew.drew TG 2 (some ⟨xb, 0, none⟩) n cN (gcs (I ++ [o2]))) := Lib.hid (by rw [← e9]; exact S9.out)
          have K10 : Hid (Keep w3.heap.size [] w3 (W1.drew.drew.setCell ⟨xb, q * 2 + 1, none⟩ (.int .i64 (if o.t < r.t then r.t else o.t)))) := Lib.hid (KW1.out.drew.drew.setN (BA.out xb (by simp [blks])))
          have hjn := nrm_join NR.out hrf hof hj2
          rw [hMx.out, ← ho2] at hjn
          clear ho2
          have JN := Lib.hid hjn
          clear e9 hjn x9 z9 hbc
          go_wp2_with fail
          go_roundw
          case rel =>
            refine ⟨k + 1, _, n, cN, I ++ [o2], by omega, by go_num, rfl, by (first | exact S10.out | (rw [hMx.out]; exact S10.out)), by have := NL.out; simp only [List.length_append, List.length_cons, List.length_nil] at this ⊢; exact this, by omega, JN.out.1, (fun z => ?_), (fun a ha x hx => ?_), by (first | exact K10.out | (rw [hMx.out]; exact K10.out)), BA.out⟩
            · rw [JN.out.2, HMK.out, ← ME.out]
            · rcases List.mem_append.1 ha with ha | ha
              · exact OD.out a (List.mem_append.2 (.inl ha)) x (HDS.out x hx)
              · rcases List.mem_singleton.1 ha with rfl
                rw [HO2F.out]; exact OD.out o (by simp) x (HDS.out x hx)
          case measure => simp [intOf] <;> omega
    · obtain rfl : k = m2 := by omega
      go_wp2_with fail
      go_ret
      have ht : S.take k = S := by rw [HSL.out, List.take_length]
      refine ⟨A, cN, N, by rw [NL.out]; rfl, by rw [NL.out]; exact SL.out, NR.out, fun z => ?_, by rw [NL.out]; have h1 := HM2.out; have h2 := HFL.out; omega, K3.out.chain0 (Nat.le_refl _) KW.out, fun y hy => Nat.le_trans K3.out.size (BA.out y hy)⟩
      rw [ME.out, ht, mem_perm PM.out, mem_filter]
end Go.Proofs.Ytfkbcflgbjncdaa
