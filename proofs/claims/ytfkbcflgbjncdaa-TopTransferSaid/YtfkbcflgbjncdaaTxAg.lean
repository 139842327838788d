/- The receiving end: piece. -/
import Derived.Test.YtfkbcflgbjncdaaTxR
import Derived.Test.YtfkbcflgbjncdaaTxAd
import Derived.Test.YtfkbcflgbjncdaaTxZ
namespace Go.Proofs.Ytfkbcflgbjncdaa
set_option linter.unusedVariables false
set_option linter.unusedSimpArgs false
open Go.RowKit
theorem ktotal_any (w : World) (p : Nat) (F : List Int) (c : Nat) (l : Ly) (K : Sk) (b : Nat) (hbn : b ≤ F.length) (hb : Blk w p TK (kcs F c l K)) : Calls Try.prog 100 #[ptr p] w fun e w' => (∃ v bl, e = .returned (.tuple #[.int .i64 v, .bool bl]) ∧ (bl = true → (b : Int) ≤ v)) ∧ Keep w.heap.size [] w w' := by
  cases hn : K.named with
  | true => exact (ktotal_n w p F c l K hn hb).mono fun e w' h => ⟨⟨_, _, h.1, fun _ => by omega⟩, h.2⟩
  | false =>
    refine (ktotal_u w p F c l K hn hb).mono fun e w' h => ⟨⟨_, _, h.1, fun hf => ?_⟩, h.2⟩
    rw [hf]; show (b : Int) ≤ (F.length : Int); omega
def PkPost (w : World) (p : Nat) (F : List Int) (c : Nat) (l : Ly) (K : Sk) (a b : Nat) (e : Ending) (w' : World) : Prop :=
  ∃ l' N D, e = .returned (.int .i64 0) ∧ Nrm N ∧ (∀ z, mem N z ↔ mem K.got z ∨ ((a : Int) ≤ z ∧ z < b)) ∧ D.length = max K.dat.length b ∧ (∀ z : Nat, mem K.got z → D[z]? = K.dat[z]?) ∧ (∀ z : Nat, a ≤ z → z < b → ¬ mem K.got z → D[z]? = F[z]?) ∧
    SkAt w' p F c l' (if width K.got < width N then { K with dat := D, got := N, tm := K.now, tr := 0 } else { K with dat := D, got := N }) ∧ Keep w.heap.size (p :: blks l.D) w w' ∧ ∀ y, y ∈ sbl p l' → y ∈ sbl p l ∨ w.heap.size ≤ y
theorem getElem?_zer {D : List Int} {m z : Nat} (h : z < D.length) : (D ++ List.replicate m 0)[z]? = D[z]? := List.getElem?_append_left h
theorem octs_zer (D : List Int) (m : Nat) : octs D ++ zer m = octs (D ++ List.replicate m 0) := by simp [octs]
def kcsD (F : List Int) (c : Nat) (A : Option Addr) (n cc : Nat) (l : Ly) (K : Sk) : Array Value := (kcs F c l K).setIfInBounds 17 (.slice A n cc)
theorem kcs_dat {F : List Int} {c : Nat} {A Y : Option Addr} {n cc yc : Nat} {l : Ly} {K : Sk} {D : List Int} {N : List Gp} (h : n = D.length) : (kcsD F c A n cc l K).setIfInBounds 18 (.slice Y N.length yc) = kcs F c ⟨A, cc, Y, yc⟩ { K with dat := D, got := N } := by subst h; rfl
theorem octs_set (D : List Int) (j : Nat) (x : Int) : octs (D.set j x) = (octs D).set j (.int .u8 x) := by simp [octs, List.map_set]
theorem slF {w : World} {e : TypeId} {size n c g : Nat} {xs : List Value} (h : Sl w e size (some ⟨g, 0, none⟩) n c xs) (j : Nat) : w.frozen? ⟨g, j, none⟩ = false := by
  rcases h.2 with ⟨hv, _⟩ | ⟨g', cap, cur, hv, _, hg, _⟩
  · cases hv
  · injection hv with h1
    injection h1 with h1
    injection h1 with h1
    subst h1
    exact Blk.frozen (t := e) hg j
theorem oct_set {D : List Int} (h : Oct D) (j : Nat) {x : Int} (hx : 0 ≤ x ∧ x ≤ 255) : Oct (D.set j x) := by
  intro y hy
  rcases List.mem_or_eq_of_mem_set hy with k | k
  · exact h y k
  · rw [k]; exact hx
set_option maxRecDepth 100000 in
set_option maxHeartbeats 16000000 in
theorem kpc_w (w : World) (p : Nat) (F : List Int) (c : Nat) (l : Ly) (K : Sk) (a b : Nat) (lu : Lc) (hab : a < b) (hbn : b ≤ F.length) (hn : F.length ≤ 300) (ho : Oct F) (hu : PIn w (upd F (.pc a b)) lu) (hud : ∀ y, y ∈ blks lu.D → y ∉ sbl p l) (h : SkAt w p F c l K) (hgn : Nrm K.got) (hgi : ∀ z, mem K.got z → 0 ≤ z ∧ z < (F.length : Int)) (hgd : ∀ z : Nat, mem K.got z → z < K.dat.length) (hdl : K.dat.length ≤ F.length) :
    Calls Try.prog 132 #[ptr p, .agg (pcs (upd F (.pc a b)) lu)] w (PkPost w p F c l K a b) := by
  have hdn : lu.dn = b - a := by have := hu.dlen; simp only [upd, List.length_take, List.length_drop] at this; omega
  have hgl : K.got.length ≤ 300 := by have := nrm_len (a := 0) (N := (F.length : Int)) hgn hgi (by omega); omega
  have huv := hu.vd
  obtain ⟨ub, uo, hUD, _, _⟩ := huv.2 (by omega)
  rw [hUD, hdn] at huv
  have hucI : ((b - a : Nat) : Int) ≤ (lu.dc : Int) := by have := hu.cd.1; omega
  have hubp : ub ≠ p ∧ ub ∉ blks l.D := by
    have := hud ub (by rw [hUD]; simp [blks])
    simp only [sbl, List.mem_cons, List.mem_append, not_or] at this
    exact ⟨this.1, this.2.1⟩
  have HU := Lib.hid huv
  have HUD := Lib.hid hUD
  have HDN := Lib.hid hdn
  have HUB := Lib.hid hubp
  have HS := Lib.hid h
  have HB := Lib.hid h.blk
  have HGN := Lib.hid hgn
  have HGI := Lib.hid hgi
  have HGD := Lib.hid hgd
  have HO := Lib.hid ho
  obtain ⟨m, hm⟩ : ∃ m, m = b - a := ⟨_, rfl⟩
  have e1 : (a : Int) + (m : Int) = (b : Int) := by omega
  have ewb : IntKind.i64.wrap (b : Int) = (b : Int) := i64k (by omega) (by omega)
  rw [← hm] at huv hucI
  have HM := Lib.hid hm
  have HUM : Hid (Vw w (some ⟨ub, uo, none⟩) m 1 (octs ((F.drop a).take m))) := Lib.hid (by rw [hm]; rw [hm] at huv; exact huv)
  clear h hu hgn hgi hgd ho huv hUD hdn hubp hm hud HU
  go_enter Try.func132, Try.ntmps132
  go_upto_region 1 with fail
  obtain ⟨W, hW⟩ : ∃ W, W = w.alloc (.cells (pcs (upd F (.pc a b)) lu) TP) := ⟨_, rfl⟩
  obtain ⟨q, hq⟩ : ∃ q, q = w.heap.size := ⟨_, rfl⟩
  have bq : Blk W q TP (pcs (upd F (.pc a b)) lu) := by rw [hW, hq]; exact Blk.new _ _ _
  have ka : Keep w.heap.size [] w W := by rw [hW]; exact (Keep.refl _ _ _).alloc (Nat.le_refl _) _
  have hpq : p ≠ q := by have := HB.out.lt; omega
  have hqp : q ≠ p := hpq.symm
  change Code.wp _ _ _ _ (w.alloc (.cells (pcs (upd F (.pc a b)) lu) TP))
  rw [← hW, ← hq]
  have bp := HB.out.keepS ka (by simp)
  have HQ0 : Hid (w.heap.size ≤ q) := Lib.hid (Nat.le_of_eq hq.symm)
  clear hW hq
  have z6 : W.cell? ⟨q, 6, none⟩ = some (.int .i64 a) := bq.cell 6
  have z7 : W.cell? ⟨q, 7, none⟩ = some (.slice (some ⟨ub, uo, none⟩) m lu.dc) := by rw [← HUD.out, HM.out, ← HDN.out]; exact bq.cell 7
  have BP := Lib.hid bp
  have BQ := Lib.hid bq
  have KA := Lib.hid ka
  clear bp bq ka
  have SA := Lib.hid (HS.out.keepS KA.out (by simp))
  have UA := Lib.hid (HUM.out.keep0 KA.out)
  go_wp2_with fail
  refine (ktotal_any _ p F c l K b hbn BP.out).mono ?_
  rintro e W1 ⟨⟨v, bl, rfl, hbl⟩, hk1⟩
  have S1 := Lib.hid (SA.out.keepS hk1 (by simp))
  have BQ1 := Lib.hid (BQ.out.keepS hk1 (by simp))
  have U1 := Lib.hid (UA.out.keep0 hk1)
  have K1 : Hid (Keep w.heap.size [] w W1) := Lib.hid (KA.out.chain0 (Nat.le_refl _) hk1)
  have HQ : Hid (w.heap.size ≤ q ∧ q < W1.heap.size) := Lib.hid ⟨HQ0.out, BQ1.out.lt⟩
  have z6 : W1.cell? ⟨q, 6, none⟩ = some (.int .i64 a) := BQ1.out.cell 6
  have z7 : W1.cell? ⟨q, 7, none⟩ = some (.slice (some ⟨ub, uo, none⟩) m lu.dc) := by rw [← HUD.out, HM.out, ← HDN.out]; exact BQ1.out.cell 7
  have c17 : W1.cell? ⟨p, 17, none⟩ = some (.slice l.D K.dat.length l.dc) := S1.out.blk.cell 17
  have c18 : W1.cell? ⟨p, 18, none⟩ = some (.slice l.W K.got.length l.wc) := S1.out.blk.cell 18
  have hvb : bl = true → decide (v < (b : Int)) = false := fun hh => by have := hbl hh; simp; omega
  have HVB := Lib.hid hvb
  clear hk1 hbl hvb
  cases bl
  all_goals (try have hv0 := HVB.out rfl)
  all_goals go_upto_region 5 with fail
  · by_cases hlong : K.dat.length < b
    · have hle : (K.dat.length : Int) < (b : Int) := by omega
      have esub : IntKind.i64.wrap ((b : Int) - (K.dat.length : Int)) = ((b - K.dat.length : Nat) : Int) := by rw [i64k (by omega) (by omega)]; omega
      go_upto_region 6 with fail
      refine region_anyZ 15 (S := (fun w' => w'.cell? ⟨p, 17, none⟩ = some (.slice l.D K.dat.length l.dc))) (by kernel_rfl) (by exact c17) (fun hHeld => ?_)
      refine tkZ (i := 0) (oi := { dst := some 35, op := Op.move (Operand.tmp 0), type := 79, pos := _, after := _, guard := none }) rfl hHeld ?_
      (try simp only [Act.put, List.setIfInBounds_toArray, List.set_cons_zero, List.set_cons_succ])
      refine tkZ (i := 1) (oi := { dst := some 36, op := Op.move (Operand.tmp 0), type := 79, pos := _, after := _, guard := none }) rfl hHeld ?_
      (try simp only [Act.put, List.setIfInBounds_toArray, List.set_cons_zero, List.set_cons_succ])
      refine tkZ (i := 2) (oi := { dst := some 37, op := Op.nilCheck (Operand.tmp 36), type := 0, pos := _, after := _, guard := none }) rfl hHeld ?_
      (try simp only [Act.put, List.setIfInBounds_toArray, List.set_cons_zero, List.set_cons_succ])
      refine tkZ (i := 3) (oi := { dst := some 38, op := Op.fieldAddr 150 (Operand.tmp 37) 14, type := 0, pos := _, after := _, guard := none }) rfl hHeld ?_
      (try simp only [Act.put, List.setIfInBounds_toArray, List.set_cons_zero, List.set_cons_succ])
      refine tkZ (i := 4) (oi := { dst := some 39, op := Op.load 35 (Operand.tmp 38), type := 35, pos := _, after := _, guard := none }) rfl hHeld ?_
      (try simp only [Act.put, List.setIfInBounds_toArray, List.set_cons_zero, List.set_cons_succ])
      refine tkZ (i := 5) (oi := { dst := some 40, op := Op.move (Operand.tmp 5), type := 3, pos := _, after := _, guard := none }) rfl hHeld ?_
      (try simp only [Act.put, List.setIfInBounds_toArray, List.set_cons_zero, List.set_cons_succ])
      refine tkZ (i := 6) (oi := { dst := some 41, op := Op.move (Operand.tmp 0), type := 79, pos := _, after := _, guard := none }) rfl hHeld ?_
      (try simp only [Act.put, List.setIfInBounds_toArray, List.set_cons_zero, List.set_cons_succ])
      refine tkZ (i := 7) (oi := { dst := some 42, op := Op.nilCheck (Operand.tmp 41), type := 0, pos := _, after := _, guard := none }) rfl hHeld ?_
      (try simp only [Act.put, List.setIfInBounds_toArray, List.set_cons_zero, List.set_cons_succ])
      refine tkZ (i := 8) (oi := { dst := some 43, op := Op.fieldAddr 150 (Operand.tmp 42) 14, type := 0, pos := _, after := _, guard := none }) rfl hHeld ?_
      (try simp only [Act.put, List.setIfInBounds_toArray, List.set_cons_zero, List.set_cons_succ])
      refine tkZ (i := 9) (oi := { dst := some 44, op := Op.load 35 (Operand.tmp 43), type := 35, pos := _, after := _, guard := none }) rfl hHeld ?_
      (try simp only [Act.put, List.setIfInBounds_toArray, List.set_cons_zero, List.set_cons_succ])
      refine tkZ (i := 10) (oi := { dst := some 45, op := Op.call { callee := Callee.builtin Builtin.len, args := #[Operand.tmp 44], argTypes := #[35] }, type := 3, pos := _, after := _, guard := none }) rfl hHeld ?_
      (try simp only [Act.put, List.setIfInBounds_toArray, List.set_cons_zero, List.set_cons_succ])
      refine tkZ (i := 11) (oi := { dst := some 46, op := Op.binOp BinOp.sub 3 (Operand.tmp 40) (Operand.tmp 45) 3, type := 3, pos := _, after := _, guard := none }) rfl hHeld ?_
      (try simp only [Act.put, List.setIfInBounds_toArray, List.set_cons_zero, List.set_cons_succ])
      refine anyZ.ready (rs := [12]) (by kernel_rfl) (by simp) ?_
      refine (AllZ.cons (o := { dst := some 47, op := Op.call { callee := Callee.builtin Builtin.append, args := #[Operand.tmp 39, Operand.tmp 46], argTypes := #[35, 3] }, type := 35, pos := _, after := _, guard := none }) rfl (fun KQ hK => ?_) AllZ.nil)
      refine step_appZ (by rfl) (.tmp 39) (.tmp 46) (by rfl) l.D _ l.dc _ (by rfl) (by exact S1.out.data.drew) (b - K.dat.length) (by rfl) (by omega) (by omega) ?_
      intro A2 c2 W3 hs3 hk3 hb3
      have hap := hs3
      have S3 := Lib.hid hs3
      have b3 := S1.out.blk.drew.keepS hk3 S1.out.nD
      have K3 := Lib.hid hk3
      have HB3 : Hid (∀ g, g ∈ blks A2 → g ∈ blks l.D ∨ g = W1.heap.size) := Lib.hid hb3
      have x17 : W3.cell? ⟨p, 17, none⟩ = some (.slice l.D K.dat.length l.dc) := b3.cell 17
      have x17f := b3.frozen 17
      have B3 := Lib.hid b3
      clear hap hs3 hk3 hb3 b3
      refine hK.out _ _ (fun _ => (by exact x17)) (fun hHeld => ?_)
      clear hK KQ
      replace hHeld := hHeld (by kernel_rfl)
      (try simp only [Act.put, List.setIfInBounds_toArray, List.set_cons_zero, List.set_cons_succ])
      refine anyZ.takeU (i := 13) (oi := { dst := some 48, op := Op.nilCheck (Operand.tmp 35), type := 0, pos := _, after := _, guard := none }) (v := _) rfl (by decide) (by kernel_rfl) (by kernel_rfl) (by kernel_rfl) (fun _ _ _ h => h) (Or.inl ⟨by rfl, by (intro wS hSw; (try dsimp only at hSw); go_simp; try with_reducible rfl)⟩) (by exact hHeld) ?_
      (try simp only [Act.put, List.setIfInBounds_toArray, List.set_cons_zero, List.set_cons_succ])
      refine tkZ (i := 14) (oi := { dst := some 49, op := Op.fieldAddr 150 (Operand.tmp 48) 14, type := 0, pos := _, after := _, guard := none }) rfl hHeld ?_
      (try simp only [Act.put, List.setIfInBounds_toArray, List.set_cons_zero, List.set_cons_succ])
      refine anyZ.ready (rs := [15]) (by kernel_rfl) (by simp) ?_
      refine (AllZ.cons (o := { dst := none, op := Op.store 35 (Operand.tmp 49) (Operand.tmp 47), type := 0, pos := _, after := _, guard := none }) rfl (fun KQ hK => ?_) AllZ.nil)
      go_simp
      refine hK.out _ _ (fun h => absurd h (by decide)) (fun hHeld => ?_)
      clear hK KQ
      (try simp only [Act.put, List.setIfInBounds_toArray, List.set_cons_zero, List.set_cons_succ])
      refine anyZ.done (by kernel_rfl) ?_ _
      clear hHeld
      clear hHeld
      have hlen : K.dat.length + (b - K.dat.length) = b := by omega
      obtain ⟨g1, hg1⟩ : ∃ g1, A2 = some ⟨g1, 0, none⟩ := by
        rcases S3.out.form with ⟨_, hh, _⟩ | ⟨g, hg, _⟩
        · omega
        · exact ⟨g, hg⟩
      subst hg1
      obtain ⟨cc, hcc⟩ : ∃ cc, cc = c2 := ⟨_, rfl⟩
      obtain ⟨D1, hD1⟩ : ∃ D1, D1 = K.dat ++ List.replicate (b - K.dat.length) 0 := ⟨_, rfl⟩
      obtain ⟨N1, hN1⟩ : ∃ N1, N1 = K.dat.length + (b - K.dat.length) := ⟨_, rfl⟩
      have hgor : g1 ∈ blks l.D ∨ g1 = W1.heap.size := HB3.out g1 (by simp [blks])
      have hpg : p ≠ g1 := fun hh => by rcases hgor with h9 | h9; exact S1.out.nD (hh ▸ h9); have := S1.out.blk.lt; omega
      have hg3 : g1 < W3.heap.size := S3.out.blk (by simp [blks])
      have hk13 := K1.out.size
      have hubl : ub < W1.heap.size := by obtain ⟨b9, o9, h9, h8, _⟩ := U1.out.2 (by have := HM.out; omega); injection h9 with h9; injection h9 with h9; omega
      have hq9 := HQ.out
      have hqg : q ≠ g1 := fun hh => by rcases hgor with h9 | h9; have := HS.out.data.blk (hh ▸ h9 : q ∈ blks l.D); omega; omega
      have hug : ub ≠ g1 := fun hh => by rcases hgor with h9 | h9; exact HUB.out.2 (hh ▸ h9); omega
      have hwg : ∀ y, y ∈ blks l.W → y ∉ [g1] := fun y hy hm => by have hm := List.mem_singleton.1 hm; subst hm; rcases hgor with h9 | h9; exact HS.out.nDW _ h9 hy; have := S1.out.got.blk hy; omega
      have hq3' : ∀ g, g ∈ [q] → g ∉ blks l.D := fun g hg hm => by have := HS.out.data.blk hm; simp only [List.mem_singleton] at hg; omega
      have W4e : ∃ V, V = (W3.setCell ⟨p, 17, none⟩ (.slice (some ⟨g1, 0, none⟩) (K.dat.length + (b - K.dat.length)) c2)) := ⟨_, rfl⟩
      obtain ⟨W2, hW2⟩ := W4e
      have B2 : Hid (Blk W2 p TK (kcsD F c (some ⟨g1, 0, none⟩) N1 cc l K)) := Lib.hid (by rw [hW2, hN1, hcc]; exact B3.out.set_ 17 _)
      have SD2 : Hid (Sl W2 5 1 (some ⟨g1, 0, none⟩) N1 cc (octs D1)) := Lib.hid (by rw [hW2, hN1, hcc, hD1, ← octs_zer]; exact S3.out.far _ (by simpa [blks] using hpg))
      have HN1 : Hid (D1.length = N1 ∧ N1 = max K.dat.length b) := Lib.hid ⟨by rw [hD1, hN1]; simp, by rw [hN1]; omega⟩
      have OD1 : Hid (Oct D1) := Lib.hid (by rw [hD1]; intro y hy; rcases List.mem_append.1 hy with h9 | h9; exact S1.out.oct y h9; rw [List.eq_of_mem_replicate h9]; omega)
      have HDD : Hid (∀ z : Nat, z < K.dat.length → D1[z]? = K.dat[z]?) := Lib.hid (fun z hz => by rw [hD1]; exact getElem?_zer hz)
      have BQ2 : Hid (Blk W2 q TP (pcs (upd F (.pc a b)) lu)) := Lib.hid (by rw [hW2]; exact (BQ1.out.drew.keepS K3.out (hq3' q (by simp))).far hqp _)
      have U2 : Hid (Vw W2 (some ⟨ub, uo, none⟩) m 1 (octs ((F.drop a).take m))) := Lib.hid (by rw [hW2]; exact (U1.out.drew.keepS K3.out (by simpa [blks] using HUB.out.2)).far _ (by simpa [blks] using HUB.out.1.symm))
      have SG2 : Hid (Sl W2 TG 2 l.W K.got.length l.wc (gcs K.got)) := Lib.hid (by rw [hW2]; exact (S1.out.got.drew.keepS K3.out (fun g hg hm => HS.out.nDW g hm hg)).far _ HS.out.nW)
      have K2 : Hid (Keep w.heap.size (p :: blks l.D) w W2) := Lib.hid (by rw [hW2]; exact ((K1.out.drew.mono (S' := p :: blks l.D) (Nat.le_refl _) (by simp)).trans (K3.out.mono K1.out.drew.size (fun y _ hy => by simp [hy]))).setS (by simp))
      have HG1 : Hid (p ≠ g1 ∧ q ≠ g1 ∧ ub ≠ g1 ∧ ∀ y, y ∈ blks l.W → y ∉ [g1]) := Lib.hid ⟨hpg, hqg, hug, hwg⟩
      have HG1L : Hid (g1 < W2.heap.size) := Lib.hid (by rw [hW2]; simpa using hg3)
      have HGK : Hid (∀ x, x < w.heap.size → x ∈ [g1] → x ∈ p :: blks l.D) := Lib.hid (fun x hx hm => by have hm := List.mem_singleton.1 hm; subst hm; rcases hgor with h9 | h9; simp [h9]; omega)
      have HGN1 : Hid (g1 ∈ blks l.D ∨ w.heap.size ≤ g1) := Lib.hid (by rcases hgor with h9 | h9; exact .inl h9; right; omega)
      rw [← hW2]
      clear hW2 hD1 hN1 hcc hgor hpg hg3 hk13 hubl hq9 hqg hug hwg hq3' x17 x17f hlen z6 z7 c17 c18
      have c18 : W2.cell? ⟨p, 18, none⟩ = some (.slice l.W K.got.length l.wc) := B2.out.cell 18
      have z7 : W2.cell? ⟨q, 7, none⟩ = some (.slice (some ⟨ub, uo, none⟩) m lu.dc) := by rw [← HUD.out, HM.out, ← HDN.out]; exact BQ2.out.cell 7
      go_wp2_with fail
      refine (size_w _ l.W _ l.wc _ F.length (by omega) (by omega) HGN.out HGI.out (by exact SG2.out.vw (by omega))).mono ?_
      rintro e W3 ⟨rfl, hk3⟩
      have B3 := Lib.hid (B2.out.keepS hk3 (by simp))
      have BQ3 := Lib.hid (BQ2.out.keepS hk3 (by simp))
      have U3 := Lib.hid (U2.out.keep0 hk3)
      have SD3 := Lib.hid (SD2.out.keep0 hk3)
      have SG3 := Lib.hid (SG2.out.keep0 hk3)
      have K3 : Hid (Keep w.heap.size (p :: blks l.D) w W3) := Lib.hid (K2.out.trans (hk3.mono K2.out.size (by simp)))
      have z7 : W3.cell? ⟨q, 7, none⟩ = some (.slice (some ⟨ub, uo, none⟩) m lu.dc) := by rw [← HUD.out, HM.out, ← HDN.out]; exact BQ3.out.cell 7
      have hq3 : q < W3.heap.size := BQ3.out.lt
      have HW23 := Lib.hid hk3.size
      clear hk3 c18
      go_wp2_with fail
      go_loopw [58] (fun jj wr => ∃ (k : Nat) (D' : List Int), k ≤ m ∧ jj = .int .i64 k ∧ D'.length = N1 ∧ (∀ z : Nat, D'[z]? = if a ≤ z ∧ z < a + k ∧ ¬ mem K.got (z : Int) then F[z]? else D1[z]?) ∧ Oct D' ∧ Sl wr 5 1 (some ⟨g1, 0, none⟩) N1 cc (octs D') ∧ Keep W3.heap.size [g1] W3 wr) (fun jj _ => m - (intOf jj).toNat)
      case atStart => exact ⟨0, D1, Nat.zero_le _, rfl, HN1.out.1, (fun z => by rw [if_neg (by omega)]), OD1.out, SD3.out, Keep.refl _ _ _⟩
      case round =>
        obtain ⟨k, D', hk, rfl, hD, hDz, hDo, hsl, hkw⟩ := hrel
        have HDL := Lib.hid hD
        have HDZ := Lib.hid hDz
        have HDO := Lib.hid hDo
        have SL := Lib.hid hsl
        have KW := Lib.hid hkw
        have BR := Lib.hid (B3.out.keepS hkw (by simpa using HG1.out.1))
        have BQR := Lib.hid (BQ3.out.keepS hkw (by simpa using HG1.out.2.1))
        have UR := Lib.hid (U3.out.keepS hkw (by simpa [blks] using HG1.out.2.2.1))
        have SGR := Lib.hid (SG3.out.keepS hkw HG1.out.2.2.2)
        clear hD hDz hDo hsl hkw z7
        by_cases hlt : k < m
        · have hki : (k : Int) < (m : Int) := by omega
          obtain ⟨b2, o2, u, hub, _, hu, hc⟩ := UR.out.at_ hlt
          have hue : b2 = ub ∧ o2 = uo := by injection hub with h; injection h with h1 h2; exact ⟨h1.symm, h2.symm⟩
          obtain ⟨rfl, rfl⟩ := hue
          obtain ⟨x, hx, rfl⟩ : ∃ x, F[a + k]? = some x ∧ u = .int .u8 x := by
            have hmb := HM.out
            rw [List.getElem?_map, List.getElem?_take_of_lt hlt, List.getElem?_drop] at hu
            cases hx : F[a + k]? with
            | none => rw [hx] at hu; cases hu
            | some x => rw [hx] at hu; exact ⟨x, rfl, (Option.some.inj hu).symm⟩
          have hxr : 0 ≤ x ∧ x ≤ 255 := HO.out x (List.mem_of_getElem? hx)
          have HX := Lib.hid hx
          have ewk : IntKind.i64.wrap ((a : Int) + (k : Int)) = (a : Int) + (k : Int) := i64k (by omega) (by omega)
          obtain ⟨vv, hvv⟩ : ∃ vv, decide (mem K.got ((a : Int) + (k : Int))) = vv := ⟨_, rfl⟩
          have HVV := Lib.hid hvv
          clear hub hu hx hvv
          have x18 : wr.cell? ⟨p, 18, none⟩ = some (.slice l.W K.got.length l.wc) := BR.out.cell 18
          have x6 : wr.cell? ⟨q, 6, none⟩ = some (.int .i64 a) := BQR.out.cell 6
          go_upto_region 11 with fail
          refine wp_region_held_drew (S := (fun w' => w'.cell? ⟨p, 18, none⟩ = some (.slice l.W K.got.length l.wc) ∧ w'.cell? ⟨q, 6, none⟩ = some (.int .i64 a))) (by kernel_rfl) (by exact ⟨x18, x6⟩) (fun hHeld => ?_)
          refine tkH (i := 0) (oi := { dst := some 63, op := Op.move (Operand.tmp 0), type := 79, pos := _, after := _, guard := none }) rfl (by assumption) ?_
          (try simp only [Act.put, List.setIfInBounds_toArray, List.set_cons_zero, List.set_cons_succ])
          refine tkH (i := 1) (oi := { dst := some 64, op := Op.nilCheck (Operand.tmp 63), type := 0, pos := _, after := _, guard := none }) rfl (by assumption) ?_
          (try simp only [Act.put, List.setIfInBounds_toArray, List.set_cons_zero, List.set_cons_succ])
          refine tkH (i := 2) (oi := { dst := some 65, op := Op.fieldAddr 150 (Operand.tmp 64) 15, type := 0, pos := _, after := _, guard := none }) rfl (by assumption) ?_
          (try simp only [Act.put, List.setIfInBounds_toArray, List.set_cons_zero, List.set_cons_succ])
          refine tkH (i := 3) (oi := { dst := some 66, op := Op.load 83 (Operand.tmp 65), type := 83, pos := _, after := _, guard := none }) rfl (by assumption) ?_
          (try simp only [Act.put, List.setIfInBounds_toArray, List.set_cons_zero, List.set_cons_succ])
          refine tkH (i := 4) (oi := { dst := some 67, op := Op.fieldAddr 85 (Operand.tmp 3) 5, type := 0, pos := _, after := _, guard := none }) rfl (by assumption) ?_
          (try simp only [Act.put, List.setIfInBounds_toArray, List.set_cons_zero, List.set_cons_succ])
          refine tkH (i := 5) (oi := { dst := some 68, op := Op.load 3 (Operand.tmp 67), type := 3, pos := _, after := _, guard := none }) rfl (by assumption) ?_
          (try simp only [Act.put, List.setIfInBounds_toArray, List.set_cons_zero, List.set_cons_succ])
          refine tkH (i := 6) (oi := { dst := some 69, op := Op.move (Operand.tmp 9), type := 3, pos := _, after := _, guard := none }) rfl (by assumption) ?_
          (try simp only [Act.put, List.setIfInBounds_toArray, List.set_cons_zero, List.set_cons_succ])
          refine tkH (i := 7) (oi := { dst := some 70, op := Op.binOp BinOp.add 3 (Operand.tmp 68) (Operand.tmp 69) 3, type := 3, pos := _, after := _, guard := none }) rfl (by assumption) ?_
          (try simp only [Act.put, List.setIfInBounds_toArray, List.set_cons_zero, List.set_cons_succ])
          refine wpAnyH_ready (rs := [8]) (by kernel_rfl) (by simp) ?_
          refine (AllReadyH.cons (o := { dst := some 71, op := Op.call { callee := Callee.value (Operand.func 152), args := #[Operand.tmp 66, Operand.tmp 70], argTypes := #[83, 3] }, type := 4, pos := _, after := _, guard := none }) rfl (fun KQ hK => ?_) AllReadyH.nil)
          go_simp
          refine (has_w _ l.W _ l.wc _ ((a : Int) + (k : Int)) vv (by omega) SGR.out.cap.1 SGR.out.cap.2 (by exact SGR.out.drew.vw (by omega)) HVV.out).mono ?_
          rintro e W4 ⟨rfl, hk4⟩
          have B4 := Lib.hid (BR.out.drew.keepS hk4 (by simp))
          have BQ4 := Lib.hid (BQR.out.drew.keepS hk4 (by simp))
          have SL4 := Lib.hid (SL.out.drew.keep0 hk4)
          have K4 : Hid (Keep W3.heap.size [g1] W3 W4) := Lib.hid (KW.out.drew.trans (hk4.mono KW.out.drew.size (by simp)))
          have x18 : W4.cell? ⟨p, 18, none⟩ = some (.slice l.W K.got.length l.wc) := B4.out.cell 18
          have x6 : W4.cell? ⟨q, 6, none⟩ = some (.int .i64 a) := BQ4.out.cell 6
          clear hk4 hc
          refine hK.out _ _ (by exact ⟨x18, x6⟩) (fun hHeld => ?_)
          clear hK KQ
          (try simp only [Act.put, List.setIfInBounds_toArray, List.set_cons_zero, List.set_cons_succ])
          refine tkH (i := 9) (oi := { dst := some 72, op := Op.unOp UnOp.not 4 (Operand.tmp 71), type := 4, pos := _, after := _, guard := none }) rfl (by assumption) ?_
          (try simp only [Act.put, List.setIfInBounds_toArray, List.set_cons_zero, List.set_cons_succ])
          refine wpAnyH_done (by kernel_rfl) ?_ _
          clear hHeld
          cases vv
          · have hnm : ¬ mem K.got (((a + k : Nat) : Int)) := by have := of_decide_eq_false HVV.out; rwa [show ((a + k : Nat) : Int) = (a : Int) + (k : Int) by omega]
            have hak : a + k < N1 := by have := HN1.out.2; omega
            have hakI : (a : Int) + (k : Int) < (N1 : Int) := by omega
            have hak0 : (0 : Int) ≤ (a : Int) + (k : Int) := by omega
            have hcc : (N1 : Int) ≤ (cc : Int) := by have := SL4.out.cap.1; omega
            have etn : ((a : Int) + (k : Int)).toNat = a + k := by omega
            have hoc : ∃ y, W4.cell? ⟨g1, a + k, none⟩ = some y := by
              obtain ⟨gg, hgg, _, hcc⟩ := SL4.out.cell (j := a + k) (by omega)
              injection hgg with hgg
              injection hgg with hgg
              subst hgg
              rw [hcc]
              exact ⟨_, List.getElem?_eq_getElem (by rw [List.length_map, HDL.out]; exact hak)⟩
            obtain ⟨y, hy⟩ := hoc
            have hyf : W4.frozen? ⟨g1, a + k, none⟩ = false := slF SL4.out _
            have HNM := Lib.hid hnm
            have HAK := Lib.hid hak
            have x17 : W4.cell? ⟨p, 17, none⟩ = some (.slice (some ⟨g1, 0, none⟩) N1 cc) := B4.out.cell 17
            clear hnm hak x18
            go_upto_region 12 with fail
            refine region_anyZ 10 (S := (fun w' => w'.cell? ⟨p, 17, none⟩ = some (.slice (some ⟨g1, 0, none⟩) N1 cc) ∧ w'.cell? ⟨q, 6, none⟩ = some (.int .i64 a))) (by kernel_rfl) (by exact ⟨x17, x6⟩) (fun hHeld => ?_)
            refine tkZ (i := 0) (oi := { dst := some 73, op := Op.move (Operand.tmp 0), type := 79, pos := _, after := _, guard := none }) rfl hHeld ?_
            (try simp only [Act.put, List.setIfInBounds_toArray, List.set_cons_zero, List.set_cons_succ])
            refine tkZ (i := 1) (oi := { dst := some 74, op := Op.nilCheck (Operand.tmp 73), type := 0, pos := _, after := _, guard := none }) rfl hHeld ?_
            (try simp only [Act.put, List.setIfInBounds_toArray, List.set_cons_zero, List.set_cons_succ])
            refine tkZ (i := 2) (oi := { dst := some 75, op := Op.fieldAddr 150 (Operand.tmp 74) 14, type := 0, pos := _, after := _, guard := none }) rfl hHeld ?_
            (try simp only [Act.put, List.setIfInBounds_toArray, List.set_cons_zero, List.set_cons_succ])
            refine tkZ (i := 3) (oi := { dst := some 76, op := Op.load 35 (Operand.tmp 75), type := 35, pos := _, after := _, guard := none }) rfl hHeld ?_
            (try simp only [Act.put, List.setIfInBounds_toArray, List.set_cons_zero, List.set_cons_succ])
            refine tkZ (i := 4) (oi := { dst := some 77, op := Op.fieldAddr 85 (Operand.tmp 3) 5, type := 0, pos := _, after := _, guard := none }) rfl hHeld ?_
            (try simp only [Act.put, List.setIfInBounds_toArray, List.set_cons_zero, List.set_cons_succ])
            refine tkZ (i := 5) (oi := { dst := some 78, op := Op.load 3 (Operand.tmp 77), type := 3, pos := _, after := _, guard := none }) rfl hHeld ?_
            (try simp only [Act.put, List.setIfInBounds_toArray, List.set_cons_zero, List.set_cons_succ])
            refine tkZ (i := 6) (oi := { dst := some 79, op := Op.move (Operand.tmp 9), type := 3, pos := _, after := _, guard := none }) rfl hHeld ?_
            (try simp only [Act.put, List.setIfInBounds_toArray, List.set_cons_zero, List.set_cons_succ])
            refine tkZ (i := 7) (oi := { dst := some 80, op := Op.binOp BinOp.add 3 (Operand.tmp 78) (Operand.tmp 79) 3, type := 3, pos := _, after := _, guard := none }) rfl hHeld ?_
            (try simp only [Act.put, List.setIfInBounds_toArray, List.set_cons_zero, List.set_cons_succ])
            refine tkZ (i := 8) (oi := { dst := some 81, op := Op.move (Operand.tmp 10), type := 5, pos := _, after := _, guard := none }) rfl hHeld ?_
            (try simp only [Act.put, List.setIfInBounds_toArray, List.set_cons_zero, List.set_cons_succ])
            refine tkZ (i := 9) (oi := { dst := some 82, op := Op.indexAddr 35 (Operand.tmp 76) (Operand.tmp 80), type := 0, pos := _, after := _, guard := none }) rfl hHeld ?_
            (try simp only [Act.put, List.setIfInBounds_toArray, List.set_cons_zero, List.set_cons_succ])
            refine anyZ.ready (rs := [10]) (by kernel_rfl) (by simp) ?_
            refine (AllZ.cons (o := { dst := none, op := Op.store 5 (Operand.tmp 82) (Operand.tmp 81), type := 0, pos := _, after := _, guard := none }) rfl (fun KQ hK => ?_) AllZ.nil)
            go_simp
            refine hK.out _ _ (fun h => absurd h (by decide)) (fun hHeld => ?_)
            clear hK KQ
            (try simp only [Act.put, List.setIfInBounds_toArray, List.set_cons_zero, List.set_cons_succ])
            refine anyZ.done (by kernel_rfl) ?_ _
            clear hHeld
            clear hHeld
            go_wp2_with fail
            go_roundw
            case rel =>
              refine ⟨k + 1, D'.set (a + k) x, by omega, by go_num, by rw [List.length_set]; exact HDL.out, fun z => ?_, oct_set HDO.out _ hxr, by rw [octs_set]; exact (SL4.out.setAt (by have := HAK.out; omega) _).drew, (K4.out.set1).drew⟩
              rw [List.getElem?_set]
              by_cases hz : a + k = z
              · subst hz
                rw [if_pos rfl, if_pos (by rw [HDL.out]; exact HAK.out), if_pos ⟨by omega, by omega, HNM.out⟩, HX.out]
              · rw [if_neg hz, HDZ.out z]
                have e2 : (a ≤ z ∧ z < a + k ∧ ¬ mem K.got (z : Int)) ↔ (a ≤ z ∧ z < a + (k + 1) ∧ ¬ mem K.got (z : Int)) := by constructor <;> (rintro ⟨h1, h2, h3⟩; exact ⟨h1, by omega, h3⟩)
                simp only [e2]
            case measure => simp [intOf] <;> omega
          · have hmm : mem K.got (((a + k : Nat) : Int)) := by have := of_decide_eq_true HVV.out; rwa [show ((a + k : Nat) : Int) = (a : Int) + (k : Int) by omega]
            have HMM := Lib.hid hmm
            clear hmm
            go_wp2_with fail
            go_roundw
            case rel =>
              refine ⟨k + 1, D', by omega, by go_num, HDL.out, fun z => ?_, HDO.out, SL4.out, K4.out⟩
              rw [HDZ.out z]
              by_cases hz : a + k = z
              · subst hz
                rw [if_neg (by omega), if_neg (fun hh => hh.2.2 HMM.out)]
              · have e2 : (a ≤ z ∧ z < a + k ∧ ¬ mem K.got (z : Int)) ↔ (a ≤ z ∧ z < a + (k + 1) ∧ ¬ mem K.got (z : Int)) := by constructor <;> (rintro ⟨h1, h2, h3⟩; exact ⟨h1, by omega, h3⟩)
                simp only [e2]
            case measure => simp [intOf] <;> omega
        · obtain rfl : m = k := by omega
          have x18 : wr.cell? ⟨p, 18, none⟩ = some (.slice l.W K.got.length l.wc) := BR.out.cell 18
          have x6 : wr.cell? ⟨q, 6, none⟩ = some (.int .i64 a) := BQR.out.cell 6
          go_upto_region 14 with fail
          refine region_anyZ 12 (S := (fun w' => w'.cell? ⟨p, 18, none⟩ = some (.slice l.W K.got.length l.wc) ∧ w'.cell? ⟨q, 6, none⟩ = some (.int .i64 a))) (by kernel_rfl) (by exact ⟨x18, x6⟩) (fun hHeld => ?_)
          refine tkZ (i := 0) (oi := { dst := some 84, op := Op.move (Operand.tmp 0), type := 79, pos := _, after := _, guard := none }) rfl hHeld ?_
          (try simp only [Act.put, List.setIfInBounds_toArray, List.set_cons_zero, List.set_cons_succ])
          refine tkZ (i := 1) (oi := { dst := some 85, op := Op.move (Operand.tmp 0), type := 79, pos := _, after := _, guard := none }) rfl hHeld ?_
          (try simp only [Act.put, List.setIfInBounds_toArray, List.set_cons_zero, List.set_cons_succ])
          refine tkZ (i := 2) (oi := { dst := some 86, op := Op.nilCheck (Operand.tmp 85), type := 0, pos := _, after := _, guard := none }) rfl hHeld ?_
          (try simp only [Act.put, List.setIfInBounds_toArray, List.set_cons_zero, List.set_cons_succ])
          refine tkZ (i := 3) (oi := { dst := some 87, op := Op.fieldAddr 150 (Operand.tmp 86) 15, type := 0, pos := _, after := _, guard := none }) rfl hHeld ?_
          (try simp only [Act.put, List.setIfInBounds_toArray, List.set_cons_zero, List.set_cons_succ])
          refine tkZ (i := 4) (oi := { dst := some 88, op := Op.load 83 (Operand.tmp 87), type := 83, pos := _, after := _, guard := none }) rfl hHeld ?_
          (try simp only [Act.put, List.setIfInBounds_toArray, List.set_cons_zero, List.set_cons_succ])
          refine tkZ (i := 5) (oi := { dst := some 89, op := Op.fieldAddr 85 (Operand.tmp 3) 5, type := 0, pos := _, after := _, guard := none }) rfl hHeld ?_
          (try simp only [Act.put, List.setIfInBounds_toArray, List.set_cons_zero, List.set_cons_succ])
          refine tkZ (i := 6) (oi := { dst := some 90, op := Op.load 3 (Operand.tmp 89), type := 3, pos := _, after := _, guard := none }) rfl hHeld ?_
          (try simp only [Act.put, List.setIfInBounds_toArray, List.set_cons_zero, List.set_cons_succ])
          refine tkZ (i := 7) (oi := { dst := some 91, op := Op.move (Operand.tmp 5), type := 3, pos := _, after := _, guard := none }) rfl hHeld ?_
          (try simp only [Act.put, List.setIfInBounds_toArray, List.set_cons_zero, List.set_cons_succ])
          refine tkZ (i := 8) (oi := { dst := some 92, op := Op.build 158 #[(0, Operand.tmp 90), (1, Operand.tmp 91)], type := 158, pos := _, after := _, guard := none }) rfl hHeld ?_
          (try simp only [Act.put, List.setIfInBounds_toArray, List.set_cons_zero, List.set_cons_succ])
          refine anyZ.ready (rs := [9]) (by kernel_rfl) (by simp) ?_
          refine (AllZ.cons (o := { dst := some 93, op := Op.call { callee := Callee.value (Operand.func 136), args := #[Operand.tmp 88, Operand.tmp 92], argTypes := #[83, 158] }, type := 83, pos := _, after := _, guard := none }) rfl (fun KQ hK => ?_) AllZ.nil)
          go_simp
          refine (add_w _ l.W _ l.wc _ ⟨a, b⟩ (by omega) (by exact SGR.out.drew.vw (by omega))).mono ?_
          rintro e W5 ⟨Y, yc, N, rfl, hs5, hn5, hm5, hl5, hk5, hf5⟩
          have S5 := Lib.hid hs5
          have N5 := Lib.hid hn5
          have M5 := Lib.hid hm5
          have F5 : Hid (∀ y, y ∈ blks Y → wr.heap.size ≤ y) := Lib.hid hf5
          have B5 := Lib.hid (BR.out.drew.keepS hk5 (by simp))
          have BQ5 := Lib.hid (BQR.out.drew.keepS hk5 (by simp))
          have SL5 := Lib.hid (SL.out.drew.keep0 hk5)
          have K5 : Hid (Keep W3.heap.size [g1] W3 W5) := Lib.hid (KW.out.drew.trans (hk5.mono KW.out.drew.size (by simp)))
          have x18 : W5.cell? ⟨p, 18, none⟩ = some (.slice l.W K.got.length l.wc) := B5.out.cell 18
          have x18f := B5.out.frozen 18
          have x6 : W5.cell? ⟨q, 6, none⟩ = some (.int .i64 a) := BQ5.out.cell 6
          clear hs5 hn5 hm5 hl5 hk5 hf5
          refine hK.out _ _ (fun _ => (by exact ⟨x18, x6⟩)) (fun hHeld => ?_)
          clear hK KQ
          replace hHeld := hHeld (by kernel_rfl)
          (try simp only [Act.put, List.setIfInBounds_toArray, List.set_cons_zero, List.set_cons_succ])
          refine anyZ.takeU (i := 10) (oi := { dst := some 94, op := Op.nilCheck (Operand.tmp 84), type := 0, pos := _, after := _, guard := none }) (v := _) rfl (by decide) (by kernel_rfl) (by kernel_rfl) (by kernel_rfl) (fun _ _ _ h => h) (Or.inl ⟨by rfl, by (intro wS hSw; (try dsimp only at hSw); go_simp; try with_reducible rfl)⟩) (by exact hHeld) ?_
          (try simp only [Act.put, List.setIfInBounds_toArray, List.set_cons_zero, List.set_cons_succ])
          refine tkZ (i := 11) (oi := { dst := some 95, op := Op.fieldAddr 150 (Operand.tmp 94) 15, type := 0, pos := _, after := _, guard := none }) rfl hHeld ?_
          (try simp only [Act.put, List.setIfInBounds_toArray, List.set_cons_zero, List.set_cons_succ])
          refine anyZ.ready (rs := [12]) (by kernel_rfl) (by simp) ?_
          refine (AllZ.cons (o := { dst := none, op := Op.store 83 (Operand.tmp 95) (Operand.tmp 93), type := 0, pos := _, after := _, guard := none }) rfl (fun KQ hK => ?_) AllZ.nil)
          go_simp
          refine hK.out _ _ (fun h => absurd h (by decide)) (fun hHeld => ?_)
          clear hK KQ
          (try simp only [Act.put, List.setIfInBounds_toArray, List.set_cons_zero, List.set_cons_succ])
          refine anyZ.done (by kernel_rfl) ?_ _
          clear hHeld
          have hfr := F5.out
          have hwz := KW.out.size
          have hk3z := K3.out.size
          have hpY : p ∉ blks Y := fun hm => by have := hfr _ hm; have := BR.out.lt; omega
          have hgY : g1 ∉ blks Y := fun hm => by have := hfr _ hm; have := HG1L.out; have := HW23.out; omega
          have B6 : Hid (Blk (W5.setCell ⟨p, 18, none⟩ (.slice Y N.length yc)) p TK (kcs F c ⟨some ⟨g1, 0, none⟩, cc, Y, yc⟩ { K with dat := D', got := N })) := Lib.hid (by have hb := B5.out.set_ 18 (.slice Y N.length yc); have e3 : N1 = D'.length := HDL.out.symm; rw [kcs_dat (D := D') e3] at hb; exact hb)
          have SL6 : Hid (Sl (W5.setCell ⟨p, 18, none⟩ (.slice Y N.length yc)) 5 1 (some ⟨g1, 0, none⟩) N1 cc (octs D')) := Lib.hid (SL5.out.far _ (by simpa [blks] using HG1.out.1))
          have S6 : Hid (Sl (W5.setCell ⟨p, 18, none⟩ (.slice Y N.length yc)) TG 2 Y N.length yc (gcs N)) := Lib.hid (S5.out.far _ hpY)
          have K6 : Hid (Keep w.heap.size (p :: blks l.D) w (W5.setCell ⟨p, 18, none⟩ (.slice Y N.length yc))) := Lib.hid ((K3.out.trans (K5.out.mono K3.out.size HGK.out)).setS (by simp))
          have hNi : ∀ z, mem N z → 0 ≤ z ∧ z < (F.length : Int) := fun z hz => by
            rcases (M5.out z).1 hz with hh | hh
            · exact HGI.out z hh
            · simp only at hh; omega
          have hNl : N.length ≤ 300 := by have := nrm_len (a := 0) (N := (F.length : Int)) N5.out hNi (by omega); omega
          have HNI := Lib.hid hNi
          clear hNi hpY hgY hfr x18 x18f
          have z18 : (W5.setCell ⟨p, 18, none⟩ (.slice Y N.length yc)).cell? ⟨p, 18, none⟩ = some (.slice Y N.length yc) := B6.out.cell 18
          go_wp2_with fail
          refine (size_w _ Y _ yc _ F.length (by omega) (by omega) N5.out HNI.out (by exact S6.out.vw (by omega))).mono ?_
          rintro e W7 ⟨rfl, hk7⟩
          have B7 := Lib.hid (B6.out.keepS hk7 (by simp))
          have SL7 := Lib.hid (SL6.out.keep0 hk7)
          have S7 := Lib.hid (S6.out.keep0 hk7)
          have K7 : Hid (Keep w.heap.size (p :: blks l.D) w W7) := Lib.hid (K6.out.trans (hk7.mono K6.out.size (by simp)))
          have hg7 : w.heap.size ≤ wr.heap.size := Nat.le_trans K3.out.size KW.out.size
          clear hk7 z18
          have D1F : Hid (∀ z : Nat, mem K.got z → D'[z]? = K.dat[z]?) := Lib.hid (fun z hz => by rw [HDZ.out z, if_neg (fun hh => hh.2.2 hz), HDD.out z (HGD.out z hz)])
          have D2F : Hid (∀ z : Nat, a ≤ z → z < b → ¬ mem K.got z → D'[z]? = F[z]?) := Lib.hid (fun z h1 h2 h3 => by have := HM.out; rw [HDZ.out z, if_pos ⟨h1, by omega, h3⟩])
          have LEN : Hid (D'.length = max K.dat.length b) := Lib.hid (by rw [HDL.out]; exact HN1.out.2.symm ▸ rfl)
          have FB : Hid (∀ y, y ∈ sbl p ⟨some ⟨g1, 0, none⟩, cc, Y, yc⟩ → y ∈ sbl p l ∨ w.heap.size ≤ y) := Lib.hid (fun y hy => by
            simp only [sbl, blks, List.mem_cons, List.mem_append, List.not_mem_nil, or_false] at hy
            rcases hy with hh | hh | hh
            · left; simp [sbl, hh]
            · rcases HGN1.out with h9 | h9
              · left; simp [sbl, hh, h9]
              · right; omega
            · right; have := F5.out y hh; omega)
          have nD7 : Hid (p ∉ blks (some (⟨g1, 0, none⟩ : Addr))) := Lib.hid (by simpa [blks] using HG1.out.1)
          have nW7 : Hid (p ∉ blks Y) := Lib.hid (fun hm => by have := F5.out _ hm; have := BR.out.lt; omega)
          have nDW7 : Hid (∀ y, y ∈ blks (some (⟨g1, 0, none⟩ : Addr)) → y ∉ blks Y) := Lib.hid (fun y hy hm => by simp only [blks, List.mem_singleton] at hy; subst hy; have := F5.out _ hm; have := HG1L.out; have := HW23.out; have := KW.out.size; omega)
          by_cases hw : width K.got < width N
          · have B8 := Lib.hid B7.out
            go_wp2_with fail
            refine (kprog_w _ p F c _ _ B8.out).mono ?_
            rintro e W8 ⟨rfl, hb8, hk8⟩
            have SK8 : Hid (SkAt W8 p F c ⟨some ⟨g1, 0, none⟩, cc, Y, yc⟩ { K with dat := D', got := N, tm := K.now, tr := 0 }) := Lib.hid (SkAt.same (K := { K with dat := D', got := N }) ⟨B7.out, by rw [show ({ K with dat := D', got := N } : Sk).dat.length = N1 from HDL.out]; exact SL7.out, HDO.out, nD7.out, S7.out, nW7.out, nDW7.out⟩ rfl rfl hb8 hk8)
            have K8 : Hid (Keep w.heap.size (p :: blks l.D) w W8) := Lib.hid (K7.out.trans (hk8.mono K7.out.size (fun y _ hy => by simp only [List.mem_singleton] at hy; simp [hy])))
            clear hb8 hk8
            go_wp2_with fail
            go_ret
            refine ⟨⟨some ⟨g1, 0, none⟩, cc, Y, yc⟩, N, D', rfl, N5.out, fun z => M5.out z, LEN.out, D1F.out, D2F.out, ?_, K8.out, FB.out⟩
            rw [if_pos hw]
            exact SK8.out
          · go_wp2_with fail
            go_ret
            refine ⟨⟨some ⟨g1, 0, none⟩, cc, Y, yc⟩, N, D', rfl, N5.out, fun z => M5.out z, LEN.out, D1F.out, D2F.out, ?_, K7.out, FB.out⟩
            rw [if_neg (by omega)]
            exact ⟨B7.out, by rw [show ({ K with dat := D', got := N } : Sk).dat.length = N1 from HDL.out]; exact SL7.out, HDO.out, nD7.out, S7.out, nW7.out, nDW7.out⟩
    · have hle : ¬ (K.dat.length : Int) < (b : Int) := by omega
      go_upto_region 7 with fail
      obtain ⟨g1, hg1⟩ : ∃ g1, l.D = some ⟨g1, 0, none⟩ := by
        rcases S1.out.data.form with ⟨_, hh, _⟩ | ⟨g, hg, _⟩
        · omega
        · exact ⟨g, hg⟩
      obtain ⟨cc, hcc⟩ : ∃ cc, cc = l.dc := ⟨_, rfl⟩
      obtain ⟨D1, hD1⟩ : ∃ D1, D1 = K.dat := ⟨_, rfl⟩
      obtain ⟨N1, hN1⟩ : ∃ N1, N1 = K.dat.length := ⟨_, rfl⟩
      obtain ⟨W2, hW2⟩ : ∃ W2, W2 = W1 := ⟨_, rfl⟩
      have B2 : Hid (Blk W2 p TK (kcsD F c (some ⟨g1, 0, none⟩) N1 cc l K)) := Lib.hid (by rw [hW2, ← hg1, hN1, hcc]; exact S1.out.blk)
      have SD2 : Hid (Sl W2 5 1 (some ⟨g1, 0, none⟩) N1 cc (octs D1)) := Lib.hid (by rw [hW2, ← hg1, hN1, hcc, hD1]; exact S1.out.data)
      have HN1 : Hid (D1.length = N1 ∧ N1 = max K.dat.length b) := Lib.hid ⟨by rw [hD1, hN1], by rw [hN1]; omega⟩
      have OD1 : Hid (Oct D1) := Lib.hid (by rw [hD1]; exact S1.out.oct)
      have HDD : Hid (∀ z : Nat, z < K.dat.length → D1[z]? = K.dat[z]?) := Lib.hid (fun z _ => by rw [hD1])
      have BQ2 : Hid (Blk W2 q TP (pcs (upd F (.pc a b)) lu)) := Lib.hid (by rw [hW2]; exact BQ1.out)
      have U2 : Hid (Vw W2 (some ⟨ub, uo, none⟩) m 1 (octs ((F.drop a).take m))) := Lib.hid (by rw [hW2]; exact U1.out)
      have SG2 : Hid (Sl W2 TG 2 l.W K.got.length l.wc (gcs K.got)) := Lib.hid (by rw [hW2]; exact S1.out.got)
      have K2 : Hid (Keep w.heap.size (p :: blks l.D) w W2) := Lib.hid (by rw [hW2]; exact K1.out.mono (Nat.le_refl _) (by simp))
      have hgl1 : g1 < w.heap.size := HS.out.data.blk (by rw [hg1]; simp [blks])
      have HG1 : Hid (p ≠ g1 ∧ q ≠ g1 ∧ ub ≠ g1 ∧ ∀ y, y ∈ blks l.W → y ∉ [g1]) := Lib.hid ⟨fun hh => HS.out.nD (by rw [hg1, hh]; simp [blks]), by have := HQ.out; omega, fun hh => HUB.out.2 (by rw [hg1, hh]; simp [blks]), fun y hy hm => HS.out.nDW g1 (by rw [hg1]; simp [blks]) (by rw [← List.mem_singleton.1 hm]; exact hy)⟩
      have HG1L : Hid (g1 < W2.heap.size) := Lib.hid (by rw [hW2]; have := K1.out.size; omega)
      have HGK : Hid (∀ x, x < w.heap.size → x ∈ [g1] → x ∈ p :: blks l.D) := Lib.hid (fun x _ hx => by rw [hg1, List.mem_singleton.1 hx]; simp [blks])
      have HGN1 : Hid (g1 ∈ blks l.D ∨ w.heap.size ≤ g1) := Lib.hid (.inl (by rw [hg1]; simp [blks]))
      rw [← hW2]
      clear hW2 hD1 hN1 hcc hg1 hgl1 z6 z7 c17 c18
      have c18 : W2.cell? ⟨p, 18, none⟩ = some (.slice l.W K.got.length l.wc) := B2.out.cell 18
      have z7 : W2.cell? ⟨q, 7, none⟩ = some (.slice (some ⟨ub, uo, none⟩) m lu.dc) := by rw [← HUD.out, HM.out, ← HDN.out]; exact BQ2.out.cell 7
      go_wp2_with fail
      refine (size_w _ l.W _ l.wc _ F.length (by omega) (by omega) HGN.out HGI.out (by exact SG2.out.vw (by omega))).mono ?_
      rintro e W3 ⟨rfl, hk3⟩
      have B3 := Lib.hid (B2.out.keepS hk3 (by simp))
      have BQ3 := Lib.hid (BQ2.out.keepS hk3 (by simp))
      have U3 := Lib.hid (U2.out.keep0 hk3)
      have SD3 := Lib.hid (SD2.out.keep0 hk3)
      have SG3 := Lib.hid (SG2.out.keep0 hk3)
      have K3 : Hid (Keep w.heap.size (p :: blks l.D) w W3) := Lib.hid (K2.out.trans (hk3.mono K2.out.size (by simp)))
      have z7 : W3.cell? ⟨q, 7, none⟩ = some (.slice (some ⟨ub, uo, none⟩) m lu.dc) := by rw [← HUD.out, HM.out, ← HDN.out]; exact BQ3.out.cell 7
      have hq3 : q < W3.heap.size := BQ3.out.lt
      have HW23 := Lib.hid hk3.size
      clear hk3 c18
      go_wp2_with fail
      go_loopw [58] (fun jj wr => ∃ (k : Nat) (D' : List Int), k ≤ m ∧ jj = .int .i64 k ∧ D'.length = N1 ∧ (∀ z : Nat, D'[z]? = if a ≤ z ∧ z < a + k ∧ ¬ mem K.got (z : Int) then F[z]? else D1[z]?) ∧ Oct D' ∧ Sl wr 5 1 (some ⟨g1, 0, none⟩) N1 cc (octs D') ∧ Keep W3.heap.size [g1] W3 wr) (fun jj _ => m - (intOf jj).toNat)
      case atStart => exact ⟨0, D1, Nat.zero_le _, rfl, HN1.out.1, (fun z => by rw [if_neg (by omega)]), OD1.out, SD3.out, Keep.refl _ _ _⟩
      case round =>
        obtain ⟨k, D', hk, rfl, hD, hDz, hDo, hsl, hkw⟩ := hrel
        have HDL := Lib.hid hD
        have HDZ := Lib.hid hDz
        have HDO := Lib.hid hDo
        have SL := Lib.hid hsl
        have KW := Lib.hid hkw
        have BR := Lib.hid (B3.out.keepS hkw (by simpa using HG1.out.1))
        have BQR := Lib.hid (BQ3.out.keepS hkw (by simpa using HG1.out.2.1))
        have UR := Lib.hid (U3.out.keepS hkw (by simpa [blks] using HG1.out.2.2.1))
        have SGR := Lib.hid (SG3.out.keepS hkw HG1.out.2.2.2)
        clear hD hDz hDo hsl hkw z7
        by_cases hlt : k < m
        · have hki : (k : Int) < (m : Int) := by omega
          obtain ⟨b2, o2, u, hub, _, hu, hc⟩ := UR.out.at_ hlt
          have hue : b2 = ub ∧ o2 = uo := by injection hub with h; injection h with h1 h2; exact ⟨h1.symm, h2.symm⟩
          obtain ⟨rfl, rfl⟩ := hue
          obtain ⟨x, hx, rfl⟩ : ∃ x, F[a + k]? = some x ∧ u = .int .u8 x := by
            have hmb := HM.out
            rw [List.getElem?_map, List.getElem?_take_of_lt hlt, List.getElem?_drop] at hu
            cases hx : F[a + k]? with
            | none => rw [hx] at hu; cases hu
            | some x => rw [hx] at hu; exact ⟨x, rfl, (Option.some.inj hu).symm⟩
          have hxr : 0 ≤ x ∧ x ≤ 255 := HO.out x (List.mem_of_getElem? hx)
          have HX := Lib.hid hx
          have ewk : IntKind.i64.wrap ((a : Int) + (k : Int)) = (a : Int) + (k : Int) := i64k (by omega) (by omega)
          obtain ⟨vv, hvv⟩ : ∃ vv, decide (mem K.got ((a : Int) + (k : Int))) = vv := ⟨_, rfl⟩
          have HVV := Lib.hid hvv
          clear hub hu hx hvv
          have x18 : wr.cell? ⟨p, 18, none⟩ = some (.slice l.W K.got.length l.wc) := BR.out.cell 18
          have x6 : wr.cell? ⟨q, 6, none⟩ = some (.int .i64 a) := BQR.out.cell 6
          go_upto_region 11 with fail
          refine wp_region_held_drew (S := (fun w' => w'.cell? ⟨p, 18, none⟩ = some (.slice l.W K.got.length l.wc) ∧ w'.cell? ⟨q, 6, none⟩ = some (.int .i64 a))) (by kernel_rfl) (by exact ⟨x18, x6⟩) (fun hHeld => ?_)
          refine tkH (i := 0) (oi := { dst := some 63, op := Op.move (Operand.tmp 0), type := 79, pos := _, after := _, guard := none }) rfl (by assumption) ?_
          (try simp only [Act.put, List.setIfInBounds_toArray, List.set_cons_zero, List.set_cons_succ])
          refine tkH (i := 1) (oi := { dst := some 64, op := Op.nilCheck (Operand.tmp 63), type := 0, pos := _, after := _, guard := none }) rfl (by assumption) ?_
          (try simp only [Act.put, List.setIfInBounds_toArray, List.set_cons_zero, List.set_cons_succ])
          refine tkH (i := 2) (oi := { dst := some 65, op := Op.fieldAddr 150 (Operand.tmp 64) 15, type := 0, pos := _, after := _, guard := none }) rfl (by assumption) ?_
          (try simp only [Act.put, List.setIfInBounds_toArray, List.set_cons_zero, List.set_cons_succ])
          refine tkH (i := 3) (oi := { dst := some 66, op := Op.load 83 (Operand.tmp 65), type := 83, pos := _, after := _, guard := none }) rfl (by assumption) ?_
          (try simp only [Act.put, List.setIfInBounds_toArray, List.set_cons_zero, List.set_cons_succ])
          refine tkH (i := 4) (oi := { dst := some 67, op := Op.fieldAddr 85 (Operand.tmp 3) 5, type := 0, pos := _, after := _, guard := none }) rfl (by assumption) ?_
          (try simp only [Act.put, List.setIfInBounds_toArray, List.set_cons_zero, List.set_cons_succ])
          refine tkH (i := 5) (oi := { dst := some 68, op := Op.load 3 (Operand.tmp 67), type := 3, pos := _, after := _, guard := none }) rfl (by assumption) ?_
          (try simp only [Act.put, List.setIfInBounds_toArray, List.set_cons_zero, List.set_cons_succ])
          refine tkH (i := 6) (oi := { dst := some 69, op := Op.move (Operand.tmp 9), type := 3, pos := _, after := _, guard := none }) rfl (by assumption) ?_
          (try simp only [Act.put, List.setIfInBounds_toArray, List.set_cons_zero, List.set_cons_succ])
          refine tkH (i := 7) (oi := { dst := some 70, op := Op.binOp BinOp.add 3 (Operand.tmp 68) (Operand.tmp 69) 3, type := 3, pos := _, after := _, guard := none }) rfl (by assumption) ?_
          (try simp only [Act.put, List.setIfInBounds_toArray, List.set_cons_zero, List.set_cons_succ])
          refine wpAnyH_ready (rs := [8]) (by kernel_rfl) (by simp) ?_
          refine (AllReadyH.cons (o := { dst := some 71, op := Op.call { callee := Callee.value (Operand.func 152), args := #[Operand.tmp 66, Operand.tmp 70], argTypes := #[83, 3] }, type := 4, pos := _, after := _, guard := none }) rfl (fun KQ hK => ?_) AllReadyH.nil)
          go_simp
          refine (has_w _ l.W _ l.wc _ ((a : Int) + (k : Int)) vv (by omega) SGR.out.cap.1 SGR.out.cap.2 (by exact SGR.out.drew.vw (by omega)) HVV.out).mono ?_
          rintro e W4 ⟨rfl, hk4⟩
          have B4 := Lib.hid (BR.out.drew.keepS hk4 (by simp))
          have BQ4 := Lib.hid (BQR.out.drew.keepS hk4 (by simp))
          have SL4 := Lib.hid (SL.out.drew.keep0 hk4)
          have K4 : Hid (Keep W3.heap.size [g1] W3 W4) := Lib.hid (KW.out.drew.trans (hk4.mono KW.out.drew.size (by simp)))
          have x18 : W4.cell? ⟨p, 18, none⟩ = some (.slice l.W K.got.length l.wc) := B4.out.cell 18
          have x6 : W4.cell? ⟨q, 6, none⟩ = some (.int .i64 a) := BQ4.out.cell 6
          clear hk4 hc
          refine hK.out _ _ (by exact ⟨x18, x6⟩) (fun hHeld => ?_)
          clear hK KQ
          (try simp only [Act.put, List.setIfInBounds_toArray, List.set_cons_zero, List.set_cons_succ])
          refine tkH (i := 9) (oi := { dst := some 72, op := Op.unOp UnOp.not 4 (Operand.tmp 71), type := 4, pos := _, after := _, guard := none }) rfl (by assumption) ?_
          (try simp only [Act.put, List.setIfInBounds_toArray, List.set_cons_zero, List.set_cons_succ])
          refine wpAnyH_done (by kernel_rfl) ?_ _
          clear hHeld
          cases vv
          · have hnm : ¬ mem K.got (((a + k : Nat) : Int)) := by have := of_decide_eq_false HVV.out; rwa [show ((a + k : Nat) : Int) = (a : Int) + (k : Int) by omega]
            have hak : a + k < N1 := by have := HN1.out.2; omega
            have hakI : (a : Int) + (k : Int) < (N1 : Int) := by omega
            have hak0 : (0 : Int) ≤ (a : Int) + (k : Int) := by omega
            have hcc : (N1 : Int) ≤ (cc : Int) := by have := SL4.out.cap.1; omega
            have etn : ((a : Int) + (k : Int)).toNat = a + k := by omega
            have hoc : ∃ y, W4.cell? ⟨g1, a + k, none⟩ = some y := by
              obtain ⟨gg, hgg, _, hcc⟩ := SL4.out.cell (j := a + k) (by omega)
              injection hgg with hgg
              injection hgg with hgg
              subst hgg
              rw [hcc]
              exact ⟨_, List.getElem?_eq_getElem (by rw [List.length_map, HDL.out]; exact hak)⟩
            obtain ⟨y, hy⟩ := hoc
            have hyf : W4.frozen? ⟨g1, a + k, none⟩ = false := slF SL4.out _
            have HNM := Lib.hid hnm
            have HAK := Lib.hid hak
            have x17 : W4.cell? ⟨p, 17, none⟩ = some (.slice (some ⟨g1, 0, none⟩) N1 cc) := B4.out.cell 17
            clear hnm hak x18
            go_upto_region 12 with fail
            refine region_anyZ 10 (S := (fun w' => w'.cell? ⟨p, 17, none⟩ = some (.slice (some ⟨g1, 0, none⟩) N1 cc) ∧ w'.cell? ⟨q, 6, none⟩ = some (.int .i64 a))) (by kernel_rfl) (by exact ⟨x17, x6⟩) (fun hHeld => ?_)
            refine tkZ (i := 0) (oi := { dst := some 73, op := Op.move (Operand.tmp 0), type := 79, pos := _, after := _, guard := none }) rfl hHeld ?_
            (try simp only [Act.put, List.setIfInBounds_toArray, List.set_cons_zero, List.set_cons_succ])
            refine tkZ (i := 1) (oi := { dst := some 74, op := Op.nilCheck (Operand.tmp 73), type := 0, pos := _, after := _, guard := none }) rfl hHeld ?_
            (try simp only [Act.put, List.setIfInBounds_toArray, List.set_cons_zero, List.set_cons_succ])
            refine tkZ (i := 2) (oi := { dst := some 75, op := Op.fieldAddr 150 (Operand.tmp 74) 14, type := 0, pos := _, after := _, guard := none }) rfl hHeld ?_
            (try simp only [Act.put, List.setIfInBounds_toArray, List.set_cons_zero, List.set_cons_succ])
            refine tkZ (i := 3) (oi := { dst := some 76, op := Op.load 35 (Operand.tmp 75), type := 35, pos := _, after := _, guard := none }) rfl hHeld ?_
            (try simp only [Act.put, List.setIfInBounds_toArray, List.set_cons_zero, List.set_cons_succ])
            refine tkZ (i := 4) (oi := { dst := some 77, op := Op.fieldAddr 85 (Operand.tmp 3) 5, type := 0, pos := _, after := _, guard := none }) rfl hHeld ?_
            (try simp only [Act.put, List.setIfInBounds_toArray, List.set_cons_zero, List.set_cons_succ])
            refine tkZ (i := 5) (oi := { dst := some 78, op := Op.load 3 (Operand.tmp 77), type := 3, pos := _, after := _, guard := none }) rfl hHeld ?_
            (try simp only [Act.put, List.setIfInBounds_toArray, List.set_cons_zero, List.set_cons_succ])
            refine tkZ (i := 6) (oi := { dst := some 79, op := Op.move (Operand.tmp 9), type := 3, pos := _, after := _, guard := none }) rfl hHeld ?_
            (try simp only [Act.put, List.setIfInBounds_toArray, List.set_cons_zero, List.set_cons_succ])
            refine tkZ (i := 7) (oi := { dst := some 80, op := Op.binOp BinOp.add 3 (Operand.tmp 78) (Operand.tmp 79) 3, type := 3, pos := _, after := _, guard := none }) rfl hHeld ?_
            (try simp only [Act.put, List.setIfInBounds_toArray, List.set_cons_zero, List.set_cons_succ])
            refine tkZ (i := 8) (oi := { dst := some 81, op := Op.move (Operand.tmp 10), type := 5, pos := _, after := _, guard := none }) rfl hHeld ?_
            (try simp only [Act.put, List.setIfInBounds_toArray, List.set_cons_zero, List.set_cons_succ])
            refine tkZ (i := 9) (oi := { dst := some 82, op := Op.indexAddr 35 (Operand.tmp 76) (Operand.tmp 80), type := 0, pos := _, after := _, guard := none }) rfl hHeld ?_
            (try simp only [Act.put, List.setIfInBounds_toArray, List.set_cons_zero, List.set_cons_succ])
            refine anyZ.ready (rs := [10]) (by kernel_rfl) (by simp) ?_
            refine (AllZ.cons (o := { dst := none, op := Op.store 5 (Operand.tmp 82) (Operand.tmp 81), type := 0, pos := _, after := _, guard := none }) rfl (fun KQ hK => ?_) AllZ.nil)
            go_simp
            refine hK.out _ _ (fun h => absurd h (by decide)) (fun hHeld => ?_)
            clear hK KQ
            (try simp only [Act.put, List.setIfInBounds_toArray, List.set_cons_zero, List.set_cons_succ])
            refine anyZ.done (by kernel_rfl) ?_ _
            clear hHeld
            clear hHeld
            go_wp2_with fail
            go_roundw
            case rel =>
              refine ⟨k + 1, D'.set (a + k) x, by omega, by go_num, by rw [List.length_set]; exact HDL.out, fun z => ?_, oct_set HDO.out _ hxr, by rw [octs_set]; exact (SL4.out.setAt (by have := HAK.out; omega) _).drew, (K4.out.set1).drew⟩
              rw [List.getElem?_set]
              by_cases hz : a + k = z
              · subst hz
                rw [if_pos rfl, if_pos (by rw [HDL.out]; exact HAK.out), if_pos ⟨by omega, by omega, HNM.out⟩, HX.out]
              · rw [if_neg hz, HDZ.out z]
                have e2 : (a ≤ z ∧ z < a + k ∧ ¬ mem K.got (z : Int)) ↔ (a ≤ z ∧ z < a + (k + 1) ∧ ¬ mem K.got (z : Int)) := by constructor <;> (rintro ⟨h1, h2, h3⟩; exact ⟨h1, by omega, h3⟩)
                simp only [e2]
            case measure => simp [intOf] <;> omega
          · have hmm : mem K.got (((a + k : Nat) : Int)) := by have := of_decide_eq_true HVV.out; rwa [show ((a + k : Nat) : Int) = (a : Int) + (k : Int) by omega]
            have HMM := Lib.hid hmm
            clear hmm
            go_wp2_with fail
            go_roundw
            case rel =>
              refine ⟨k + 1, D', by omega, by go_num, HDL.out, fun z => ?_, HDO.out, SL4.out, K4.out⟩
              rw [HDZ.out z]
              by_cases hz : a + k = z
              · subst hz
                rw [if_neg (by omega), if_neg (fun hh => hh.2.2 HMM.out)]
              · have e2 : (a ≤ z ∧ z < a + k ∧ ¬ mem K.got (z : Int)) ↔ (a ≤ z ∧ z < a + (k + 1) ∧ ¬ mem K.got (z : Int)) := by constructor <;> (rintro ⟨h1, h2, h3⟩; exact ⟨h1, by omega, h3⟩)
                simp only [e2]
            case measure => simp [intOf] <;> omega
        · obtain rfl : m = k := by omega
          have x18 : wr.cell? ⟨p, 18, none⟩ = some (.slice l.W K.got.length l.wc) := BR.out.cell 18
          have x6 : wr.cell? ⟨q, 6, none⟩ = some (.int .i64 a) := BQR.out.cell 6
          go_upto_region 14 with fail
          refine region_anyZ 12 (S := (fun w' => w'.cell? ⟨p, 18, none⟩ = some (.slice l.W K.got.length l.wc) ∧ w'.cell? ⟨q, 6, none⟩ = some (.int .i64 a))) (by kernel_rfl) (by exact ⟨x18, x6⟩) (fun hHeld => ?_)
          refine tkZ (i := 0) (oi := { dst := some 84, op := Op.move (Operand.tmp 0), type := 79, pos := _, after := _, guard := none }) rfl hHeld ?_
          (try simp only [Act.put, List.setIfInBounds_toArray, List.set_cons_zero, List.set_cons_succ])
          refine tkZ (i := 1) (oi := { dst := some 85, op := Op.move (Operand.tmp 0), type := 79, pos := _, after := _, guard := none }) rfl hHeld ?_
          (try simp only [Act.put, List.setIfInBounds_toArray, List.set_cons_zero, List.set_cons_succ])
          refine tkZ (i := 2) (oi := { dst := some 86, op := Op.nilCheck (Operand.tmp 85), type := 0, pos := _, after := _, guard := none }) rfl hHeld ?_
          (try simp only [Act.put, List.setIfInBounds_toArray, List.set_cons_zero, List.set_cons_succ])
          refine tkZ (i := 3) (oi := { dst := some 87, op := Op.fieldAddr 150 (Operand.tmp 86) 15, type := 0, pos := _, after := _, guard := none }) rfl hHeld ?_
          (try simp only [Act.put, List.setIfInBounds_toArray, List.set_cons_zero, List.set_cons_succ])
          refine tkZ (i := 4) (oi := { dst := some 88, op := Op.load 83 (Operand.tmp 87), type := 83, pos := _, after := _, guard := none }) rfl hHeld ?_
          (try simp only [Act.put, List.setIfInBounds_toArray, List.set_cons_zero, List.set_cons_succ])
          refine tkZ (i := 5) (oi := { dst := some 89, op := Op.fieldAddr 85 (Operand.tmp 3) 5, type := 0, pos := _, after := _, guard := none }) rfl hHeld ?_
          (try simp only [Act.put, List.setIfInBounds_toArray, List.set_cons_zero, List.set_cons_succ])
          refine tkZ (i := 6) (oi := { dst := some 90, op := Op.load 3 (Operand.tmp 89), type := 3, pos := _, after := _, guard := none }) rfl hHeld ?_
          (try simp only [Act.put, List.setIfInBounds_toArray, List.set_cons_zero, List.set_cons_succ])
          refine tkZ (i := 7) (oi := { dst := some 91, op := Op.move (Operand.tmp 5), type := 3, pos := _, after := _, guard := none }) rfl hHeld ?_
          (try simp only [Act.put, List.setIfInBounds_toArray, List.set_cons_zero, List.set_cons_succ])
          refine tkZ (i := 8) (oi := { dst := some 92, op := Op.build 158 #[(0, Operand.tmp 90), (1, Operand.tmp 91)], type := 158, pos := _, after := _, guard := none }) rfl hHeld ?_
          (try simp only [Act.put, List.setIfInBounds_toArray, List.set_cons_zero, List.set_cons_succ])
          refine anyZ.ready (rs := [9]) (by kernel_rfl) (by simp) ?_
          refine (AllZ.cons (o := { dst := some 93, op := Op.call { callee := Callee.value (Operand.func 136), args := #[Operand.tmp 88, Operand.tmp 92], argTypes := #[83, 158] }, type := 83, pos := _, after := _, guard := none }) rfl (fun KQ hK => ?_) AllZ.nil)
          go_simp
          refine (add_w _ l.W _ l.wc _ ⟨a, b⟩ (by omega) (by exact SGR.out.drew.vw (by omega))).mono ?_
          rintro e W5 ⟨Y, yc, N, rfl, hs5, hn5, hm5, hl5, hk5, hf5⟩
          have S5 := Lib.hid hs5
          have N5 := Lib.hid hn5
          have M5 := Lib.hid hm5
          have F5 : Hid (∀ y, y ∈ blks Y → wr.heap.size ≤ y) := Lib.hid hf5
          have B5 := Lib.hid (BR.out.drew.keepS hk5 (by simp))
          have BQ5 := Lib.hid (BQR.out.drew.keepS hk5 (by simp))
          have SL5 := Lib.hid (SL.out.drew.keep0 hk5)
          have K5 : Hid (Keep W3.heap.size [g1] W3 W5) := Lib.hid (KW.out.drew.trans (hk5.mono KW.out.drew.size (by simp)))
          have x18 : W5.cell? ⟨p, 18, none⟩ = some (.slice l.W K.got.length l.wc) := B5.out.cell 18
          have x18f := B5.out.frozen 18
          have x6 : W5.cell? ⟨q, 6, none⟩ = some (.int .i64 a) := BQ5.out.cell 6
          clear hs5 hn5 hm5 hl5 hk5 hf5
          refine hK.out _ _ (fun _ => (by exact ⟨x18, x6⟩)) (fun hHeld => ?_)
          clear hK KQ
          replace hHeld := hHeld (by kernel_rfl)
          (try simp only [Act.put, List.setIfInBounds_toArray, List.set_cons_zero, List.set_cons_succ])
          refine anyZ.takeU (i := 10) (oi := { dst := some 94, op := Op.nilCheck (Operand.tmp 84), type := 0, pos := _, after := _, guard := none }) (v := _) rfl (by decide) (by kernel_rfl) (by kernel_rfl) (by kernel_rfl) (fun _ _ _ h => h) (Or.inl ⟨by rfl, by (intro wS hSw; (try dsimp only at hSw); go_simp; try with_reducible rfl)⟩) (by exact hHeld) ?_
          (try simp only [Act.put, List.setIfInBounds_toArray, List.set_cons_zero, List.set_cons_succ])
          refine tkZ (i := 11) (oi := { dst := some 95, op := Op.fieldAddr 150 (Operand.tmp 94) 15, type := 0, pos := _, after := _, guard := none }) rfl hHeld ?_
          (try simp only [Act.put, List.setIfInBounds_toArray, List.set_cons_zero, List.set_cons_succ])
          refine anyZ.ready (rs := [12]) (by kernel_rfl) (by simp) ?_
          refine (AllZ.cons (o := { dst := none, op := Op.store 83 (Operand.tmp 95) (Operand.tmp 93), type := 0, pos := _, after := _, guard := none }) rfl (fun KQ hK => ?_) AllZ.nil)
          go_simp
          refine hK.out _ _ (fun h => absurd h (by decide)) (fun hHeld => ?_)
          clear hK KQ
          (try simp only [Act.put, List.setIfInBounds_toArray, List.set_cons_zero, List.set_cons_succ])
          refine anyZ.done (by kernel_rfl) ?_ _
          clear hHeld
          have hfr := F5.out
          have hwz := KW.out.size
          have hk3z := K3.out.size
          have hpY : p ∉ blks Y := fun hm => by have := hfr _ hm; have := BR.out.lt; omega
          have hgY : g1 ∉ blks Y := fun hm => by have := hfr _ hm; have := HG1L.out; have := HW23.out; omega
          have B6 : Hid (Blk (W5.setCell ⟨p, 18, none⟩ (.slice Y N.length yc)) p TK (kcs F c ⟨some ⟨g1, 0, none⟩, cc, Y, yc⟩ { K with dat := D', got := N })) := Lib.hid (by have hb := B5.out.set_ 18 (.slice Y N.length yc); have e3 : N1 = D'.length := HDL.out.symm; rw [kcs_dat (D := D') e3] at hb; exact hb)
          have SL6 : Hid (Sl (W5.setCell ⟨p, 18, none⟩ (.slice Y N.length yc)) 5 1 (some ⟨g1, 0, none⟩) N1 cc (octs D')) := Lib.hid (SL5.out.far _ (by simpa [blks] using HG1.out.1))
          have S6 : Hid (Sl (W5.setCell ⟨p, 18, none⟩ (.slice Y N.length yc)) TG 2 Y N.length yc (gcs N)) := Lib.hid (S5.out.far _ hpY)
          have K6 : Hid (Keep w.heap.size (p :: blks l.D) w (W5.setCell ⟨p, 18, none⟩ (.slice Y N.length yc))) := Lib.hid ((K3.out.trans (K5.out.mono K3.out.size HGK.out)).setS (by simp))
          have hNi : ∀ z, mem N z → 0 ≤ z ∧ z < (F.length : Int) := fun z hz => by
            rcases (M5.out z).1 hz with hh | hh
            · exact HGI.out z hh
            · simp only at hh; omega
          have hNl : N.length ≤ 300 := by have := nrm_len (a := 0) (N := (F.length : Int)) N5.out hNi (by omega); omega
          have HNI := Lib.hid hNi
          clear hNi hpY hgY hfr x18 x18f
          have z18 : (W5.setCell ⟨p, 18, none⟩ (.slice Y N.length yc)).cell? ⟨p, 18, none⟩ = some (.slice Y N.length yc) := B6.out.cell 18
          go_wp2_with fail
          refine (size_w _ Y _ yc _ F.length (by omega) (by omega) N5.out HNI.out (by exact S6.out.vw (by omega))).mono ?_
          rintro e W7 ⟨rfl, hk7⟩
          have B7 := Lib.hid (B6.out.keepS hk7 (by simp))
          have SL7 := Lib.hid (SL6.out.keep0 hk7)
          have S7 := Lib.hid (S6.out.keep0 hk7)
          have K7 : Hid (Keep w.heap.size (p :: blks l.D) w W7) := Lib.hid (K6.out.trans (hk7.mono K6.out.size (by simp)))
          have hg7 : w.heap.size ≤ wr.heap.size := Nat.le_trans K3.out.size KW.out.size
          clear hk7 z18
          have D1F : Hid (∀ z : Nat, mem K.got z → D'[z]? = K.dat[z]?) := Lib.hid (fun z hz => by rw [HDZ.out z, if_neg (fun hh => hh.2.2 hz), HDD.out z (HGD.out z hz)])
          have D2F : Hid (∀ z : Nat, a ≤ z → z < b → ¬ mem K.got z → D'[z]? = F[z]?) := Lib.hid (fun z h1 h2 h3 => by have := HM.out; rw [HDZ.out z, if_pos ⟨h1, by omega, h3⟩])
          have LEN : Hid (D'.length = max K.dat.length b) := Lib.hid (by rw [HDL.out]; exact HN1.out.2.symm ▸ rfl)
          have FB : Hid (∀ y, y ∈ sbl p ⟨some ⟨g1, 0, none⟩, cc, Y, yc⟩ → y ∈ sbl p l ∨ w.heap.size ≤ y) := Lib.hid (fun y hy => by
            simp only [sbl, blks, List.mem_cons, List.mem_append, List.not_mem_nil, or_false] at hy
            rcases hy with hh | hh | hh
            · left; simp [sbl, hh]
            · rcases HGN1.out with h9 | h9
              · left; simp [sbl, hh, h9]
              · right; omega
            · right; have := F5.out y hh; omega)
          have nD7 : Hid (p ∉ blks (some (⟨g1, 0, none⟩ : Addr))) := Lib.hid (by simpa [blks] using HG1.out.1)
          have nW7 : Hid (p ∉ blks Y) := Lib.hid (fun hm => by have := F5.out _ hm; have := BR.out.lt; omega)
          have nDW7 : Hid (∀ y, y ∈ blks (some (⟨g1, 0, none⟩ : Addr)) → y ∉ blks Y) := Lib.hid (fun y hy hm => by simp only [blks, List.mem_singleton] at hy; subst hy; have := F5.out _ hm; have := HG1L.out; have := HW23.out; have := KW.out.size; omega)
          by_cases hw : width K.got < width N
          · have B8 := Lib.hid B7.out
            go_wp2_with fail
            refine (kprog_w _ p F c _ _ B8.out).mono ?_
            rintro e W8 ⟨rfl, hb8, hk8⟩
            have SK8 : Hid (SkAt W8 p F c ⟨some ⟨g1, 0, none⟩, cc, Y, yc⟩ { K with dat := D', got := N, tm := K.now, tr := 0 }) := Lib.hid (SkAt.same (K := { K with dat := D', got := N }) ⟨B7.out, by rw [show ({ K with dat := D', got := N } : Sk).dat.length = N1 from HDL.out]; exact SL7.out, HDO.out, nD7.out, S7.out, nW7.out, nDW7.out⟩ rfl rfl hb8 hk8)
            have K8 : Hid (Keep w.heap.size (p :: blks l.D) w W8) := Lib.hid (K7.out.trans (hk8.mono K7.out.size (fun y _ hy => by simp only [List.mem_singleton] at hy; simp [hy])))
            clear hb8 hk8
            go_wp2_with fail
            go_ret
            refine ⟨⟨some ⟨g1, 0, none⟩, cc, Y, yc⟩, N, D', rfl, N5.out, fun z => M5.out z, LEN.out, D1F.out, D2F.out, ?_, K8.out, FB.out⟩
            rw [if_pos hw]
            exact SK8.out
          · go_wp2_with fail
            go_ret
            refine ⟨⟨some ⟨g1, 0, none⟩, cc, Y, yc⟩, N, D', rfl, N5.out, fun z => M5.out z, LEN.out, D1F.out, D2F.out, ?_, K7.out, FB.out⟩
            rw [if_neg (by omega)]
            exact ⟨B7.out, by rw [show ({ K with dat := D', got := N } : Sk).dat.length = N1 from HDL.out]; exact SL7.out, HDO.out, nD7.out, S7.out, nW7.out, nDW7.out⟩
  · by_cases hlong : K.dat.length < b
    · have hle : (K.dat.length : Int) < (b : Int) := by omega
      have esub : IntKind.i64.wrap ((b : Int) - (K.dat.length : Int)) = ((b - K.dat.length : Nat) : Int) := by rw [i64k (by omega) (by omega)]; omega
      go_upto_region 6 with fail
      refine region_anyZ 15 (S := (fun w' => w'.cell? ⟨p, 17, none⟩ = some (.slice l.D K.dat.length l.dc))) (by kernel_rfl) (by exact c17) (fun hHeld => ?_)
      refine tkZ (i := 0) (oi := { dst := some 35, op := Op.move (Operand.tmp 0), type := 79, pos := _, after := _, guard := none }) rfl hHeld ?_
      (try simp only [Act.put, List.setIfInBounds_toArray, List.set_cons_zero, List.set_cons_succ])
      refine tkZ (i := 1) (oi := { dst := some 36, op := Op.move (Operand.tmp 0), type := 79, pos := _, after := _, guard := none }) rfl hHeld ?_
      (try simp only [Act.put, List.setIfInBounds_toArray, List.set_cons_zero, List.set_cons_succ])
      refine tkZ (i := 2) (oi := { dst := some 37, op := Op.nilCheck (Operand.tmp 36), type := 0, pos := _, after := _, guard := none }) rfl hHeld ?_
      (try simp only [Act.put, List.setIfInBounds_toArray, List.set_cons_zero, List.set_cons_succ])
      refine tkZ (i := 3) (oi := { dst := some 38, op := Op.fieldAddr 150 (Operand.tmp 37) 14, type := 0, pos := _, after := _, guard := none }) rfl hHeld ?_
      (try simp only [Act.put, List.setIfInBounds_toArray, List.set_cons_zero, List.set_cons_succ])
      refine tkZ (i := 4) (oi := { dst := some 39, op := Op.load 35 (Operand.tmp 38), type := 35, pos := _, after := _, guard := none }) rfl hHeld ?_
      (try simp only [Act.put, List.setIfInBounds_toArray, List.set_cons_zero, List.set_cons_succ])
      refine tkZ (i := 5) (oi := { dst := some 40, op := Op.move (Operand.tmp 5), type := 3, pos := _, after := _, guard := none }) rfl hHeld ?_
      (try simp only [Act.put, List.setIfInBounds_toArray, List.set_cons_zero, List.set_cons_succ])
      refine tkZ (i := 6) (oi := { dst := some 41, op := Op.move (Operand.tmp 0), type := 79, pos := _, after := _, guard := none }) rfl hHeld ?_
      (try simp only [Act.put, List.setIfInBounds_toArray, List.set_cons_zero, List.set_cons_succ])
      refine tkZ (i := 7) (oi := { dst := some 42, op := Op.nilCheck (Operand.tmp 41), type := 0, pos := _, after := _, guard := none }) rfl hHeld ?_
      (try simp only [Act.put, List.setIfInBounds_toArray, List.set_cons_zero, List.set_cons_succ])
      refine tkZ (i := 8) (oi := { dst := some 43, op := Op.fieldAddr 150 (Operand.tmp 42) 14, type := 0, pos := _, after := _, guard := none }) rfl hHeld ?_
      (try simp only [Act.put, List.setIfInBounds_toArray, List.set_cons_zero, List.set_cons_succ])
      refine tkZ (i := 9) (oi := { dst := some 44, op := Op.load 35 (Operand.tmp 43), type := 35, pos := _, after := _, guard := none }) rfl hHeld ?_
      (try simp only [Act.put, List.setIfInBounds_toArray, List.set_cons_zero, List.set_cons_succ])
      refine tkZ (i := 10) (oi := { dst := some 45, op := Op.call { callee := Callee.builtin Builtin.len, args := #[Operand.tmp 44], argTypes := #[35] }, type := 3, pos := _, after := _, guard := none }) rfl hHeld ?_
      (try simp only [Act.put, List.setIfInBounds_toArray, List.set_cons_zero, List.set_cons_succ])
      refine tkZ (i := 11) (oi := { dst := some 46, op := Op.binOp BinOp.sub 3 (Operand.tmp 40) (Operand.tmp 45) 3, type := 3, pos := _, after := _, guard := none }) rfl hHeld ?_
      (try simp only [Act.put, List.setIfInBounds_toArray, List.set_cons_zero, List.set_cons_succ])
      refine anyZ.ready (rs := [12]) (by kernel_rfl) (by simp) ?_
      refine (AllZ.cons (o := { dst := some 47, op := Op.call { callee := Callee.builtin Builtin.append, args := #[Operand.tmp 39, Operand.tmp 46], argTypes := #[35, 3] }, type := 35, pos := _, after := _, guard := none }) rfl (fun KQ hK => ?_) AllZ.nil)
      refine step_appZ (by rfl) (.tmp 39) (.tmp 46) (by rfl) l.D _ l.dc _ (by rfl) (by exact S1.out.data.drew) (b - K.dat.length) (by rfl) (by omega) (by omega) ?_
      intro A2 c2 W3 hs3 hk3 hb3
      have hap := hs3
      have S3 := Lib.hid hs3
      have b3 := S1.out.blk.drew.keepS hk3 S1.out.nD
      have K3 := Lib.hid hk3
      have HB3 : Hid (∀ g, g ∈ blks A2 → g ∈ blks l.D ∨ g = W1.heap.size) := Lib.hid hb3
      have x17 : W3.cell? ⟨p, 17, none⟩ = some (.slice l.D K.dat.length l.dc) := b3.cell 17
      have x17f := b3.frozen 17
      have B3 := Lib.hid b3
      clear hap hs3 hk3 hb3 b3
      refine hK.out _ _ (fun _ => (by exact x17)) (fun hHeld => ?_)
      clear hK KQ
      replace hHeld := hHeld (by kernel_rfl)
      (try simp only [Act.put, List.setIfInBounds_toArray, List.set_cons_zero, List.set_cons_succ])
      refine anyZ.takeU (i := 13) (oi := { dst := some 48, op := Op.nilCheck (Operand.tmp 35), type := 0, pos := _, after := _, guard := none }) (v := _) rfl (by decide) (by kernel_rfl) (by kernel_rfl) (by kernel_rfl) (fun _ _ _ h => h) (Or.inl ⟨by rfl, by (intro wS hSw; (try dsimp only at hSw); go_simp; try with_reducible rfl)⟩) (by exact hHeld) ?_
      (try simp only [Act.put, List.setIfInBounds_toArray, List.set_cons_zero, List.set_cons_succ])
      refine tkZ (i := 14) (oi := { dst := some 49, op := Op.fieldAddr 150 (Operand.tmp 48) 14, type := 0, pos := _, after := _, guard := none }) rfl hHeld ?_
      (try simp only [Act.put, List.setIfInBounds_toArray, List.set_cons_zero, List.set_cons_succ])
      refine anyZ.ready (rs := [15]) (by kernel_rfl) (by simp) ?_
      refine (AllZ.cons (o := { dst := none, op := Op.store 35 (Operand.tmp 49) (Operand.tmp 47), type := 0, pos := _, after := _, guard := none }) rfl (fun KQ hK => ?_) AllZ.nil)
      go_simp
      refine hK.out _ _ (fun h => absurd h (by decide)) (fun hHeld => ?_)
      clear hK KQ
      (try simp only [Act.put, List.setIfInBounds_toArray, List.set_cons_zero, List.set_cons_succ])
      refine anyZ.done (by kernel_rfl) ?_ _
      clear hHeld
      clear hHeld
      have hlen : K.dat.length + (b - K.dat.length) = b := by omega
      obtain ⟨g1, hg1⟩ : ∃ g1, A2 = some ⟨g1, 0, none⟩ := by
        rcases S3.out.form with ⟨_, hh, _⟩ | ⟨g, hg, _⟩
        · omega
        · exact ⟨g, hg⟩
      subst hg1
      obtain ⟨cc, hcc⟩ : ∃ cc, cc = c2 := ⟨_, rfl⟩
      obtain ⟨D1, hD1⟩ : ∃ D1, D1 = K.dat ++ List.replicate (b - K.dat.length) 0 := ⟨_, rfl⟩
      obtain ⟨N1, hN1⟩ : ∃ N1, N1 = K.dat.length + (b - K.dat.length) := ⟨_, rfl⟩
      have hgor : g1 ∈ blks l.D ∨ g1 = W1.heap.size := HB3.out g1 (by simp [blks])
      have hpg : p ≠ g1 := fun hh => by rcases hgor with h9 | h9; exact S1.out.nD (hh ▸ h9); have := S1.out.blk.lt; omega
      have hg3 : g1 < W3.heap.size := S3.out.blk (by simp [blks])
      have hk13 := K1.out.size
      have hubl : ub < W1.heap.size := by obtain ⟨b9, o9, h9, h8, _⟩ := U1.out.2 (by have := HM.out; omega); injection h9 with h9; injection h9 with h9; omega
      have hq9 := HQ.out
      have hqg : q ≠ g1 := fun hh => by rcases hgor with h9 | h9; have := HS.out.data.blk (hh ▸ h9 : q ∈ blks l.D); omega; omega
      have hug : ub ≠ g1 := fun hh => by rcases hgor with h9 | h9; exact HUB.out.2 (hh ▸ h9); omega
      have hwg : ∀ y, y ∈ blks l.W → y ∉ [g1] := fun y hy hm => by have hm := List.mem_singleton.1 hm; subst hm; rcases hgor with h9 | h9; exact HS.out.nDW _ h9 hy; have := S1.out.got.blk hy; omega
      have hq3' : ∀ g, g ∈ [q] → g ∉ blks l.D := fun g hg hm => by have := HS.out.data.blk hm; simp only [List.mem_singleton] at hg; omega
      have W4e : ∃ V, V = (W3.setCell ⟨p, 17, none⟩ (.slice (some ⟨g1, 0, none⟩) (K.dat.length + (b - K.dat.length)) c2)) := ⟨_, rfl⟩
      obtain ⟨W2, hW2⟩ := W4e
      have B2 : Hid (Blk W2 p TK (kcsD F c (some ⟨g1, 0, none⟩) N1 cc l K)) := Lib.hid (by rw [hW2, hN1, hcc]; exact B3.out.set_ 17 _)
      have SD2 : Hid (Sl W2 5 1 (some ⟨g1, 0, none⟩) N1 cc (octs D1)) := Lib.hid (by rw [hW2, hN1, hcc, hD1, ← octs_zer]; exact S3.out.far _ (by simpa [blks] using hpg))
      have HN1 : Hid (D1.length = N1 ∧ N1 = max K.dat.length b) := Lib.hid ⟨by rw [hD1, hN1]; simp, by rw [hN1]; omega⟩
      have OD1 : Hid (Oct D1) := Lib.hid (by rw [hD1]; intro y hy; rcases List.mem_append.1 hy with h9 | h9; exact S1.out.oct y h9; rw [List.eq_of_mem_replicate h9]; omega)
      have HDD : Hid (∀ z : Nat, z < K.dat.length → D1[z]? = K.dat[z]?) := Lib.hid (fun z hz => by rw [hD1]; exact getElem?_zer hz)
      have BQ2 : Hid (Blk W2 q TP (pcs (upd F (.pc a b)) lu)) := Lib.hid (by rw [hW2]; exact (BQ1.out.drew.keepS K3.out (hq3' q (by simp))).far hqp _)
      have U2 : Hid (Vw W2 (some ⟨ub, uo, none⟩) m 1 (octs ((F.drop a).take m))) := Lib.hid (by rw [hW2]; exact (U1.out.drew.keepS K3.out (by simpa [blks] using HUB.out.2)).far _ (by simpa [blks] using HUB.out.1.symm))
      have SG2 : Hid (Sl W2 TG 2 l.W K.got.length l.wc (gcs K.got)) := Lib.hid (by rw [hW2]; exact (S1.out.got.drew.keepS K3.out (fun g hg hm => HS.out.nDW g hm hg)).far _ HS.out.nW)
      have K2 : Hid (Keep w.heap.size (p :: blks l.D) w W2) := Lib.hid (by rw [hW2]; exact ((K1.out.drew.mono (S' := p :: blks l.D) (Nat.le_refl _) (by simp)).trans (K3.out.mono K1.out.drew.size (fun y _ hy => by simp [hy]))).setS (by simp))
      have HG1 : Hid (p ≠ g1 ∧ q ≠ g1 ∧ ub ≠ g1 ∧ ∀ y, y ∈ blks l.W → y ∉ [g1]) := Lib.hid ⟨hpg, hqg, hug, hwg⟩
      have HG1L : Hid (g1 < W2.heap.size) := Lib.hid (by rw [hW2]; simpa using hg3)
      have HGK : Hid (∀ x, x < w.heap.size → x ∈ [g1] → x ∈ p :: blks l.D) := Lib.hid (fun x hx hm => by have hm := List.mem_singleton.1 hm; subst hm; rcases hgor with h9 | h9; simp [h9]; omega)
      have HGN1 : Hid (g1 ∈ blks l.D ∨ w.heap.size ≤ g1) := Lib.hid (by rcases hgor with h9 | h9; exact .inl h9; right; omega)
      rw [← hW2]
      clear hW2 hD1 hN1 hcc hgor hpg hg3 hk13 hubl hq9 hqg hug hwg hq3' x17 x17f hlen z6 z7 c17 c18
      have c18 : W2.cell? ⟨p, 18, none⟩ = some (.slice l.W K.got.length l.wc) := B2.out.cell 18
      have z7 : W2.cell? ⟨q, 7, none⟩ = some (.slice (some ⟨ub, uo, none⟩) m lu.dc) := by rw [← HUD.out, HM.out, ← HDN.out]; exact BQ2.out.cell 7
      go_wp2_with fail
      refine (size_w _ l.W _ l.wc _ F.length (by omega) (by omega) HGN.out HGI.out (by exact SG2.out.vw (by omega))).mono ?_
      rintro e W3 ⟨rfl, hk3⟩
      have B3 := Lib.hid (B2.out.keepS hk3 (by simp))
      have BQ3 := Lib.hid (BQ2.out.keepS hk3 (by simp))
      have U3 := Lib.hid (U2.out.keep0 hk3)
      have SD3 := Lib.hid (SD2.out.keep0 hk3)
      have SG3 := Lib.hid (SG2.out.keep0 hk3)
      have K3 : Hid (Keep w.heap.size (p :: blks l.D) w W3) := Lib.hid (K2.out.trans (hk3.mono K2.out.size (by simp)))
      have z7 : W3.cell? ⟨q, 7, none⟩ = some (.slice (some ⟨ub, uo, none⟩) m lu.dc) := by rw [← HUD.out, HM.out, ← HDN.out]; exact BQ3.out.cell 7
      have hq3 : q < W3.heap.size := BQ3.out.lt
      have HW23 := Lib.hid hk3.size
      clear hk3 c18
      go_wp2_with fail
      go_loopw [58] (fun jj wr => ∃ (k : Nat) (D' : List Int), k ≤ m ∧ jj = .int .i64 k ∧ D'.length = N1 ∧ (∀ z : Nat, D'[z]? = if a ≤ z ∧ z < a + k ∧ ¬ mem K.got (z : Int) then F[z]? else D1[z]?) ∧ Oct D' ∧ Sl wr 5 1 (some ⟨g1, 0, none⟩) N1 cc (octs D') ∧ Keep W3.heap.size [g1] W3 wr) (fun jj _ => m - (intOf jj).toNat)
      case atStart => exact ⟨0, D1, Nat.zero_le _, rfl, HN1.out.1, (fun z => by rw [if_neg (by omega)]), OD1.out, SD3.out, Keep.refl _ _ _⟩
      case round =>
        obtain ⟨k, D', hk, rfl, hD, hDz, hDo, hsl, hkw⟩ := hrel
        have HDL := Lib.hid hD
        have HDZ := Lib.hid hDz
        have HDO := Lib.hid hDo
        have SL := Lib.hid hsl
        have KW := Lib.hid hkw
        have BR := Lib.hid (B3.out.keepS hkw (by simpa using HG1.out.1))
        have BQR := Lib.hid (BQ3.out.keepS hkw (by simpa using HG1.out.2.1))
        have UR := Lib.hid (U3.out.keepS hkw (by simpa [blks] using HG1.out.2.2.1))
        have SGR := Lib.hid (SG3.out.keepS hkw HG1.out.2.2.2)
        clear hD hDz hDo hsl hkw z7
        by_cases hlt : k < m
        · have hki : (k : Int) < (m : Int) := by omega
          obtain ⟨b2, o2, u, hub, _, hu, hc⟩ := UR.out.at_ hlt
          have hue : b2 = ub ∧ o2 = uo := by injection hub with h; injection h with h1 h2; exact ⟨h1.symm, h2.symm⟩
          obtain ⟨rfl, rfl⟩ := hue
          obtain ⟨x, hx, rfl⟩ : ∃ x, F[a + k]? = some x ∧ u = .int .u8 x := by
            have hmb := HM.out
            rw [List.getElem?_map, List.getElem?_take_of_lt hlt, List.getElem?_drop] at hu
            cases hx : F[a + k]? with
            | none => rw [hx] at hu; cases hu
            | some x => rw [hx] at hu; exact ⟨x, rfl, (Option.some.inj hu).symm⟩
          have hxr : 0 ≤ x ∧ x ≤ 255 := HO.out x (List.mem_of_getElem? hx)
          have HX := Lib.hid hx
          have ewk : IntKind.i64.wrap ((a : Int) + (k : Int)) = (a : Int) + (k : Int) := i64k (by omega) (by omega)
          obtain ⟨vv, hvv⟩ : ∃ vv, decide (mem K.got ((a : Int) + (k : Int))) = vv := ⟨_, rfl⟩
          have HVV := Lib.hid hvv
          clear hub hu hx hvv
          have x18 : wr.cell? ⟨p, 18, none⟩ = some (.slice l.W K.got.length l.wc) := BR.out.cell 18
          have x6 : wr.cell? ⟨q, 6, none⟩ = some (.int .i64 a) := BQR.out.cell 6
          go_upto_region 11 with fail
          refine wp_region_held_drew (S := (fun w' => w'.cell? ⟨p, 18, none⟩ = some (.slice l.W K.got.length l.wc) ∧ w'.cell? ⟨q, 6, none⟩ = some (.int .i64 a))) (by kernel_rfl) (by exact ⟨x18, x6⟩) (fun hHeld => ?_)
          refine tkH (i := 0) (oi := { dst := some 63, op := Op.move (Operand.tmp 0), type := 79, pos := _, after := _, guard := none }) rfl (by assumption) ?_
          (try simp only [Act.put, List.setIfInBounds_toArray, List.set_cons_zero, List.set_cons_succ])
          refine tkH (i := 1) (oi := { dst := some 64, op := Op.nilCheck (Operand.tmp 63), type := 0, pos := _, after := _, guard := none }) rfl (by assumption) ?_
          (try simp only [Act.put, List.setIfInBounds_toArray, List.set_cons_zero, List.set_cons_succ])
          refine tkH (i := 2) (oi := { dst := some 65, op := Op.fieldAddr 150 (Operand.tmp 64) 15, type := 0, pos := _, after := _, guard := none }) rfl (by assumption) ?_
          (try simp only [Act.put, List.setIfInBounds_toArray, List.set_cons_zero, List.set_cons_succ])
          refine tkH (i := 3) (oi := { dst := some 66, op := Op.load 83 (Operand.tmp 65), type := 83, pos := _, after := _, guard := none }) rfl (by assumption) ?_
          (try simp only [Act.put, List.setIfInBounds_toArray, List.set_cons_zero, List.set_cons_succ])
          refine tkH (i := 4) (oi := { dst := some 67, op := Op.fieldAddr 85 (Operand.tmp 3) 5, type := 0, pos := _, after := _, guard := none }) rfl (by assumption) ?_
          (try simp only [Act.put, List.setIfInBounds_toArray, List.set_cons_zero, List.set_cons_succ])
          refine tkH (i := 5) (oi := { dst := some 68, op := Op.load 3 (Operand.tmp 67), type := 3, pos := _, after := _, guard := none }) rfl (by assumption) ?_
          (try simp only [Act.put, List.setIfInBounds_toArray, List.set_cons_zero, List.set_cons_succ])
          refine tkH (i := 6) (oi := { dst := some 69, op := Op.move (Operand.tmp 9), type := 3, pos := _, after := _, guard := none }) rfl (by assumption) ?_
          (try simp only [Act.put, List.setIfInBounds_toArray, List.set_cons_zero, List.set_cons_succ])
          refine tkH (i := 7) (oi := { dst := some 70, op := Op.binOp BinOp.add 3 (Operand.tmp 68) (Operand.tmp 69) 3, type := 3, pos := _, after := _, guard := none }) rfl (by assumption) ?_
          (try simp only [Act.put, List.setIfInBounds_toArray, List.set_cons_zero, List.set_cons_succ])
          refine wpAnyH_ready (rs := [8]) (by kernel_rfl) (by simp) ?_
          refine (AllReadyH.cons (o := { dst := some 71, op := Op.call { callee := Callee.value (Operand.func 152), args := #[Operand.tmp 66, Operand.tmp 70], argTypes := #[83, 3] }, type := 4, pos := _, after := _, guard := none }) rfl (fun KQ hK => ?_) AllReadyH.nil)
          go_simp
          refine (has_w _ l.W _ l.wc _ ((a : Int) + (k : Int)) vv (by omega) SGR.out.cap.1 SGR.out.cap.2 (by exact SGR.out.drew.vw (by omega)) HVV.out).mono ?_
          rintro e W4 ⟨rfl, hk4⟩
          have B4 := Lib.hid (BR.out.drew.keepS hk4 (by simp))
          have BQ4 := Lib.hid (BQR.out.drew.keepS hk4 (by simp))
          have SL4 := Lib.hid (SL.out.drew.keep0 hk4)
          have K4 : Hid (Keep W3.heap.size [g1] W3 W4) := Lib.hid (KW.out.drew.trans (hk4.mono KW.out.drew.size (by simp)))
          have x18 : W4.cell? ⟨p, 18, none⟩ = some (.slice l.W K.got.length l.wc) := B4.out.cell 18
          have x6 : W4.cell? ⟨q, 6, none⟩ = some (.int .i64 a) := BQ4.out.cell 6
          clear hk4 hc
          refine hK.out _ _ (by exact ⟨x18, x6⟩) (fun hHeld => ?_)
          clear hK KQ
          (try simp only [Act.put, List.setIfInBounds_toArray, List.set_cons_zero, List.set_cons_succ])
          refine tkH (i := 9) (oi := { dst := some 72, op := Op.unOp UnOp.not 4 (Operand.tmp 71), type := 4, pos := _, after := _, guard := none }) rfl (by assumption) ?_
          (try simp only [Act.put, List.setIfInBounds_toArray, List.set_cons_zero, List.set_cons_succ])
          refine wpAnyH_done (by kernel_rfl) ?_ _
          clear hHeld
          cases vv
          · have hnm : ¬ mem K.got (((a + k : Nat) : Int)) := by have := of_decide_eq_false HVV.out; rwa [show ((a + k : Nat) : Int) = (a : Int) + (k : Int) by omega]
            have hak : a + k < N1 := by have := HN1.out.2; omega
            have hakI : (a : Int) + (k : Int) < (N1 : Int) := by omega
            have hak0 : (0 : Int) ≤ (a : Int) + (k : Int) := by omega
            have hcc : (N1 : Int) ≤ (cc : Int) := by have := SL4.out.cap.1; omega
            have etn : ((a : Int) + (k : Int)).toNat = a + k := by omega
            have hoc : ∃ y, W4.cell? ⟨g1, a + k, none⟩ = some y := by
              obtain ⟨gg, hgg, _, hcc⟩ := SL4.out.cell (j := a + k) (by omega)
              injection hgg with hgg
              injection hgg with hgg
              subst hgg
              rw [hcc]
              exact ⟨_, List.getElem?_eq_getElem (by rw [List.length_map, HDL.out]; exact hak)⟩
            obtain ⟨y, hy⟩ := hoc
            have hyf : W4.frozen? ⟨g1, a + k, none⟩ = false := slF SL4.out _
            have HNM := Lib.hid hnm
            have HAK := Lib.hid hak
            have x17 : W4.cell? ⟨p, 17, none⟩ = some (.slice (some ⟨g1, 0, none⟩) N1 cc) := B4.out.cell 17
            clear hnm hak x18
            go_upto_region 12 with fail
            refine region_anyZ 10 (S := (fun w' => w'.cell? ⟨p, 17, none⟩ = some (.slice (some ⟨g1, 0, none⟩) N1 cc) ∧ w'.cell? ⟨q, 6, none⟩ = some (.int .i64 a))) (by kernel_rfl) (by exact ⟨x17, x6⟩) (fun hHeld => ?_)
            refine tkZ (i := 0) (oi := { dst := some 73, op := Op.move (Operand.tmp 0), type := 79, pos := _, after := _, guard := none }) rfl hHeld ?_
            (try simp only [Act.put, List.setIfInBounds_toArray, List.set_cons_zero, List.set_cons_succ])
            refine tkZ (i := 1) (oi := { dst := some 74, op := Op.nilCheck (Operand.tmp 73), type := 0, pos := _, after := _, guard := none }) rfl hHeld ?_
            (try simp only [Act.put, List.setIfInBounds_toArray, List.set_cons_zero, List.set_cons_succ])
            refine tkZ (i := 2) (oi := { dst := some 75, op := Op.fieldAddr 150 (Operand.tmp 74) 14, type := 0, pos := _, after := _, guard := none }) rfl hHeld ?_
            (try simp only [Act.put, List.setIfInBounds_toArray, List.set_cons_zero, List.set_cons_succ])
            refine tkZ (i := 3) (oi := { dst := some 76, op := Op.load 35 (Operand.tmp 75), type := 35, pos := _, after := _, guard := none }) rfl hHeld ?_
            (try simp only [Act.put, List.setIfInBounds_toArray, List.set_cons_zero, List.set_cons_succ])
            refine tkZ (i := 4) (oi := { dst := some 77, op := Op.fieldAddr 85 (Operand.tmp 3) 5, type := 0, pos := _, after := _, guard := none }) rfl hHeld ?_
            (try simp only [Act.put, List.setIfInBounds_toArray, List.set_cons_zero, List.set_cons_succ])
            refine tkZ (i := 5) (oi := { dst := some 78, op := Op.load 3 (Operand.tmp 77), type := 3, pos := _, after := _, guard := none }) rfl hHeld ?_
            (try simp only [Act.put, List.setIfInBounds_toArray, List.set_cons_zero, List.set_cons_succ])
            refine tkZ (i := 6) (oi := { dst := some 79, op := Op.move (Operand.tmp 9), type := 3, pos := _, after := _, guard := none }) rfl hHeld ?_
            (try simp only [Act.put, List.setIfInBounds_toArray, List.set_cons_zero, List.set_cons_succ])
            refine tkZ (i := 7) (oi := { dst := some 80, op := Op.binOp BinOp.add 3 (Operand.tmp 78) (Operand.tmp 79) 3, type := 3, pos := _, after := _, guard := none }) rfl hHeld ?_
            (try simp only [Act.put, List.setIfInBounds_toArray, List.set_cons_zero, List.set_cons_succ])
            refine tkZ (i := 8) (oi := { dst := some 81, op := Op.move (Operand.tmp 10), type := 5, pos := _, after := _, guard := none }) rfl hHeld ?_
            (try simp only [Act.put, List.setIfInBounds_toArray, List.set_cons_zero, List.set_cons_succ])
            refine tkZ (i := 9) (oi := { dst := some 82, op := Op.indexAddr 35 (Operand.tmp 76) (Operand.tmp 80), type := 0, pos := _, after := _, guard := none }) rfl hHeld ?_
            (try simp only [Act.put, List.setIfInBounds_toArray, List.set_cons_zero, List.set_cons_succ])
            refine anyZ.ready (rs := [10]) (by kernel_rfl) (by simp) ?_
            refine (AllZ.cons (o := { dst := none, op := Op.store 5 (Operand.tmp 82) (Operand.tmp 81), type := 0, pos := _, after := _, guard := none }) rfl (fun KQ hK => ?_) AllZ.nil)
            go_simp
            refine hK.out _ _ (fun h => absurd h (by decide)) (fun hHeld => ?_)
            clear hK KQ
            (try simp only [Act.put, List.setIfInBounds_toArray, List.set_cons_zero, List.set_cons_succ])
            refine anyZ.done (by kernel_rfl) ?_ _
            clear hHeld
            clear hHeld
            go_wp2_with fail
            go_roundw
            case rel =>
              refine ⟨k + 1, D'.set (a + k) x, by omega, by go_num, by rw [List.length_set]; exact HDL.out, fun z => ?_, oct_set HDO.out _ hxr, by rw [octs_set]; exact (SL4.out.setAt (by have := HAK.out; omega) _).drew, (K4.out.set1).drew⟩
              rw [List.getElem?_set]
              by_cases hz : a + k = z
              · subst hz
                rw [if_pos rfl, if_pos (by rw [HDL.out]; exact HAK.out), if_pos ⟨by omega, by omega, HNM.out⟩, HX.out]
              · rw [if_neg hz, HDZ.out z]
                have e2 : (a ≤ z ∧ z < a + k ∧ ¬ mem K.got (z : Int)) ↔ (a ≤ z ∧ z < a + (k + 1) ∧ ¬ mem K.got (z : Int)) := by constructor <;> (rintro ⟨h1, h2, h3⟩; exact ⟨h1, by omega, h3⟩)
                simp only [e2]
            case measure => simp [intOf] <;> omega
          · have hmm : mem K.got (((a + k : Nat) : Int)) := by have := of_decide_eq_true HVV.out; rwa [show ((a + k : Nat) : Int) = (a : Int) + (k : Int) by omega]
            have HMM := Lib.hid hmm
            clear hmm
            go_wp2_with fail
            go_roundw
            case rel =>
              refine ⟨k + 1, D', by omega, by go_num, HDL.out, fun z => ?_, HDO.out, SL4.out, K4.out⟩
              rw [HDZ.out z]
              by_cases hz : a + k = z
              · subst hz
                rw [if_neg (by omega), if_neg (fun hh => hh.2.2 HMM.out)]
              · have e2 : (a ≤ z ∧ z < a + k ∧ ¬ mem K.got (z : Int)) ↔ (a ≤ z ∧ z < a + (k + 1) ∧ ¬ mem K.got (z : Int)) := by constructor <;> (rintro ⟨h1, h2, h3⟩; exact ⟨h1, by omega, h3⟩)
                simp only [e2]
            case measure => simp [intOf] <;> omega
        · obtain rfl : m = k := by omega
          have x18 : wr.cell? ⟨p, 18, none⟩ = some (.slice l.W K.got.length l.wc) := BR.out.cell 18
          have x6 : wr.cell? ⟨q, 6, none⟩ = some (.int .i64 a) := BQR.out.cell 6
          go_upto_region 14 with fail
          refine region_anyZ 12 (S := (fun w' => w'.cell? ⟨p, 18, none⟩ = some (.slice l.W K.got.length l.wc) ∧ w'.cell? ⟨q, 6, none⟩ = some (.int .i64 a))) (by kernel_rfl) (by exact ⟨x18, x6⟩) (fun hHeld => ?_)
          refine tkZ (i := 0) (oi := { dst := some 84, op := Op.move (Operand.tmp 0), type := 79, pos := _, after := _, guard := none }) rfl hHeld ?_
          (try simp only [Act.put, List.setIfInBounds_toArray, List.set_cons_zero, List.set_cons_succ])
          refine tkZ (i := 1) (oi := { dst := some 85, op := Op.move (Operand.tmp 0), type := 79, pos := _, after := _, guard := none }) rfl hHeld ?_
          (try simp only [Act.put, List.setIfInBounds_toArray, List.set_cons_zero, List.set_cons_succ])
          refine tkZ (i := 2) (oi := { dst := some 86, op := Op.nilCheck (Operand.tmp 85), type := 0, pos := _, after := _, guard := none }) rfl hHeld ?_
          (try simp only [Act.put, List.setIfInBounds_toArray, List.set_cons_zero, List.set_cons_succ])
          refine tkZ (i := 3) (oi := { dst := some 87, op := Op.fieldAddr 150 (Operand.tmp 86) 15, type := 0, pos := _, after := _, guard := none }) rfl hHeld ?_
          (try simp only [Act.put, List.setIfInBounds_toArray, List.set_cons_zero, List.set_cons_succ])
          refine tkZ (i := 4) (oi := { dst := some 88, op := Op.load 83 (Operand.tmp 87), type := 83, pos := _, after := _, guard := none }) rfl hHeld ?_
          (try simp only [Act.put, List.setIfInBounds_toArray, List.set_cons_zero, List.set_cons_succ])
          refine tkZ (i := 5) (oi := { dst := some 89, op := Op.fieldAddr 85 (Operand.tmp 3) 5, type := 0, pos := _, after := _, guard := none }) rfl hHeld ?_
          (try simp only [Act.put, List.setIfInBounds_toArray, List.set_cons_zero, List.set_cons_succ])
          refine tkZ (i := 6) (oi := { dst := some 90, op := Op.load 3 (Operand.tmp 89), type := 3, pos := _, after := _, guard := none }) rfl hHeld ?_
          (try simp only [Act.put, List.setIfInBounds_toArray, List.set_cons_zero, List.set_cons_succ])
          refine tkZ (i := 7) (oi := { dst := some 91, op := Op.move (Operand.tmp 5), type := 3, pos := _, after := _, guard := none }) rfl hHeld ?_
          (try simp only [Act.put, List.setIfInBounds_toArray, List.set_cons_zero, List.set_cons_succ])
          refine tkZ (i := 8) (oi := { dst := some 92, op := Op.build 158 #[(0, Operand.tmp 90), (1, Operand.tmp 91)], type := 158, pos := _, after := _, guard := none }) rfl hHeld ?_
          (try simp only [Act.put, List.setIfInBounds_toArray, List.set_cons_zero, List.set_cons_succ])
          refine anyZ.ready (rs := [9]) (by kernel_rfl) (by simp) ?_
          refine (AllZ.cons (o := { dst := some 93, op := Op.call { callee := Callee.value (Operand.func 136), args := #[Operand.tmp 88, Operand.tmp 92], argTypes := #[83, 158] }, type := 83, pos := _, after := _, guard := none }) rfl (fun KQ hK => ?_) AllZ.nil)
          go_simp
          refine (add_w _ l.W _ l.wc _ ⟨a, b⟩ (by omega) (by exact SGR.out.drew.vw (by omega))).mono ?_
          rintro e W5 ⟨Y, yc, N, rfl, hs5, hn5, hm5, hl5, hk5, hf5⟩
          have S5 := Lib.hid hs5
          have N5 := Lib.hid hn5
          have M5 := Lib.hid hm5
          have F5 : Hid (∀ y, y ∈ blks Y → wr.heap.size ≤ y) := Lib.hid hf5
          have B5 := Lib.hid (BR.out.drew.keepS hk5 (by simp))
          have BQ5 := Lib.hid (BQR.out.drew.keepS hk5 (by simp))
          have SL5 := Lib.hid (SL.out.drew.keep0 hk5)
          have K5 : Hid (Keep W3.heap.size [g1] W3 W5) := Lib.hid (KW.out.drew.trans (hk5.mono KW.out.drew.size (by simp)))
          have x18 : W5.cell? ⟨p, 18, none⟩ = some (.slice l.W K.got.length l.wc) := B5.out.cell 18
          have x18f := B5.out.frozen 18
          have x6 : W5.cell? ⟨q, 6, none⟩ = some (.int .i64 a) := BQ5.out.cell 6
          clear hs5 hn5 hm5 hl5 hk5 hf5
          refine hK.out _ _ (fun _ => (by exact ⟨x18, x6⟩)) (fun hHeld => ?_)
          clear hK KQ
          replace hHeld := hHeld (by kernel_rfl)
          (try simp only [Act.put, List.setIfInBounds_toArray, List.set_cons_zero, List.set_cons_succ])
          refine anyZ.takeU (i := 10) (oi := { dst := some 94, op := Op.nilCheck (Operand.tmp 84), type := 0, pos := _, after := _, guard := none }) (v := _) rfl (by decide) (by kernel_rfl) (by kernel_rfl) (by kernel_rfl) (fun _ _ _ h => h) (Or.inl ⟨by rfl, by (intro wS hSw; (try dsimp only at hSw); go_simp; try with_reducible rfl)⟩) (by exact hHeld) ?_
          (try simp only [Act.put, List.setIfInBounds_toArray, List.set_cons_zero, List.set_cons_succ])
          refine tkZ (i := 11) (oi := { dst := some 95, op := Op.fieldAddr 150 (Operand.tmp 94) 15, type := 0, pos := _, after := _, guard := none }) rfl hHeld ?_
          (try simp only [Act.put, List.setIfInBounds_toArray, List.set_cons_zero, List.set_cons_succ])
          refine anyZ.ready (rs := [12]) (by kernel_rfl) (by simp) ?_
          refine (AllZ.cons (o := { dst := none, op := Op.store 83 (Operand.tmp 95) (Operand.tmp 93), type := 0, pos := _, after := _, guard := none }) rfl (fun KQ hK => ?_) AllZ.nil)
          go_simp
          refine hK.out _ _ (fun h => absurd h (by decide)) (fun hHeld => ?_)
          clear hK KQ
          (try simp only [Act.put, List.setIfInBounds_toArray, List.set_cons_zero, List.set_cons_succ])
          refine anyZ.done (by kernel_rfl) ?_ _
          clear hHeld
          have hfr := F5.out
          have hwz := KW.out.size
          have hk3z := K3.out.size
          have hpY : p ∉ blks Y := fun hm => by have := hfr _ hm; have := BR.out.lt; omega
          have hgY : g1 ∉ blks Y := fun hm => by have := hfr _ hm; have := HG1L.out; have := HW23.out; omega
          have B6 : Hid (Blk (W5.setCell ⟨p, 18, none⟩ (.slice Y N.length yc)) p TK (kcs F c ⟨some ⟨g1, 0, none⟩, cc, Y, yc⟩ { K with dat := D', got := N })) := Lib.hid (by have hb := B5.out.set_ 18 (.slice Y N.length yc); have e3 : N1 = D'.length := HDL.out.symm; rw [kcs_dat (D := D') e3] at hb; exact hb)
          have SL6 : Hid (Sl (W5.setCell ⟨p, 18, none⟩ (.slice Y N.length yc)) 5 1 (some ⟨g1, 0, none⟩) N1 cc (octs D')) := Lib.hid (SL5.out.far _ (by simpa [blks] using HG1.out.1))
          have S6 : Hid (Sl (W5.setCell ⟨p, 18, none⟩ (.slice Y N.length yc)) TG 2 Y N.length yc (gcs N)) := Lib.hid (S5.out.far _ hpY)
          have K6 : Hid (Keep w.heap.size (p :: blks l.D) w (W5.setCell ⟨p, 18, none⟩ (.slice Y N.length yc))) := Lib.hid ((K3.out.trans (K5.out.mono K3.out.size HGK.out)).setS (by simp))
          have hNi : ∀ z, mem N z → 0 ≤ z ∧ z < (F.length : Int) := fun z hz => by
            rcases (M5.out z).1 hz with hh | hh
            · exact HGI.out z hh
            · simp only at hh; omega
          have hNl : N.length ≤ 300 := by have := nrm_len (a := 0) (N := (F.length : Int)) N5.out hNi (by omega); omega
          have HNI := Lib.hid hNi
          clear hNi hpY hgY hfr x18 x18f
          have z18 : (W5.setCell ⟨p, 18, none⟩ (.slice Y N.length yc)).cell? ⟨p, 18, none⟩ = some (.slice Y N.length yc) := B6.out.cell 18
          go_wp2_with fail
          refine (size_w _ Y _ yc _ F.length (by omega) (by omega) N5.out HNI.out (by exact S6.out.vw (by omega))).mono ?_
          rintro e W7 ⟨rfl, hk7⟩
          have B7 := Lib.hid (B6.out.keepS hk7 (by simp))
          have SL7 := Lib.hid (SL6.out.keep0 hk7)
          have S7 := Lib.hid (S6.out.keep0 hk7)
          have K7 : Hid (Keep w.heap.size (p :: blks l.D) w W7) := Lib.hid (K6.out.trans (hk7.mono K6.out.size (by simp)))
          have hg7 : w.heap.size ≤ wr.heap.size := Nat.le_trans K3.out.size KW.out.size
          clear hk7 z18
          have D1F : Hid (∀ z : Nat, mem K.got z → D'[z]? = K.dat[z]?) := Lib.hid (fun z hz => by rw [HDZ.out z, if_neg (fun hh => hh.2.2 hz), HDD.out z (HGD.out z hz)])
          have D2F : Hid (∀ z : Nat, a ≤ z → z < b → ¬ mem K.got z → D'[z]? = F[z]?) := Lib.hid (fun z h1 h2 h3 => by have := HM.out; rw [HDZ.out z, if_pos ⟨h1, by omega, h3⟩])
          have LEN : Hid (D'.length = max K.dat.length b) := Lib.hid (by rw [HDL.out]; exact HN1.out.2.symm ▸ rfl)
          have FB : Hid (∀ y, y ∈ sbl p ⟨some ⟨g1, 0, none⟩, cc, Y, yc⟩ → y ∈ sbl p l ∨ w.heap.size ≤ y) := Lib.hid (fun y hy => by
            simp only [sbl, blks, List.mem_cons, List.mem_append, List.not_mem_nil, or_false] at hy
            rcases hy with hh | hh | hh
            · left; simp [sbl, hh]
            · rcases HGN1.out with h9 | h9
              · left; simp [sbl, hh, h9]
              · right; omega
            · right; have := F5.out y hh; omega)
          have nD7 : Hid (p ∉ blks (some (⟨g1, 0, none⟩ : Addr))) := Lib.hid (by simpa [blks] using HG1.out.1)
          have nW7 : Hid (p ∉ blks Y) := Lib.hid (fun hm => by have := F5.out _ hm; have := BR.out.lt; omega)
          have nDW7 : Hid (∀ y, y ∈ blks (some (⟨g1, 0, none⟩ : Addr)) → y ∉ blks Y) := Lib.hid (fun y hy hm => by simp only [blks, List.mem_singleton] at hy; subst hy; have := F5.out _ hm; have := HG1L.out; have := HW23.out; have := KW.out.size; omega)
          by_cases hw : width K.got < width N
          · have B8 := Lib.hid B7.out
            go_wp2_with fail
            refine (kprog_w _ p F c _ _ B8.out).mono ?_
            rintro e W8 ⟨rfl, hb8, hk8⟩
            have SK8 : Hid (SkAt W8 p F c ⟨some ⟨g1, 0, none⟩, cc, Y, yc⟩ { K with dat := D', got := N, tm := K.now, tr := 0 }) := Lib.hid (SkAt.same (K := { K with dat := D', got := N }) ⟨B7.out, by rw [show ({ K with dat := D', got := N } : Sk).dat.length = N1 from HDL.out]; exact SL7.out, HDO.out, nD7.out, S7.out, nW7.out, nDW7.out⟩ rfl rfl hb8 hk8)
            have K8 : Hid (Keep w.heap.size (p :: blks l.D) w W8) := Lib.hid (K7.out.trans (hk8.mono K7.out.size (fun y _ hy => by simp only [List.mem_singleton] at hy; simp [hy])))
            clear hb8 hk8
            go_wp2_with fail
            go_ret
            refine ⟨⟨some ⟨g1, 0, none⟩, cc, Y, yc⟩, N, D', rfl, N5.out, fun z => M5.out z, LEN.out, D1F.out, D2F.out, ?_, K8.out, FB.out⟩
            rw [if_pos hw]
            exact SK8.out
          · go_wp2_with fail
            go_ret
            refine ⟨⟨some ⟨g1, 0, none⟩, cc, Y, yc⟩, N, D', rfl, N5.out, fun z => M5.out z, LEN.out, D1F.out, D2F.out, ?_, K7.out, FB.out⟩
            rw [if_neg (by omega)]
            exact ⟨B7.out, by rw [show ({ K with dat := D', got := N } : Sk).dat.length = N1 from HDL.out]; exact SL7.out, HDO.out, nD7.out, S7.out, nW7.out, nDW7.out⟩
    · have hle : ¬ (K.dat.length : Int) < (b : Int) := by omega
      go_upto_region 7 with fail
      obtain ⟨g1, hg1⟩ : ∃ g1, l.D = some ⟨g1, 0, none⟩ := by
        rcases S1.out.data.form with ⟨_, hh, _⟩ | ⟨g, hg, _⟩
        · omega
        · exact ⟨g, hg⟩
      obtain ⟨cc, hcc⟩ : ∃ cc, cc = l.dc := ⟨_, rfl⟩
      obtain ⟨D1, hD1⟩ : ∃ D1, D1 = K.dat := ⟨_, rfl⟩
      obtain ⟨N1, hN1⟩ : ∃ N1, N1 = K.dat.length := ⟨_, rfl⟩
      obtain ⟨W2, hW2⟩ : ∃ W2, W2 = W1 := ⟨_, rfl⟩
      have B2 : Hid (Blk W2 p TK (kcsD F c (some ⟨g1, 0, none⟩) N1 cc l K)) := Lib.hid (by rw [hW2, ← hg1, hN1, hcc]; exact S1.out.blk)
      have SD2 : Hid (Sl W2 5 1 (some ⟨g1, 0, none⟩) N1 cc (octs D1)) := Lib.hid (by rw [hW2, ← hg1, hN1, hcc, hD1]; exact S1.out.data)
      have HN1 : Hid (D1.length = N1 ∧ N1 = max K.dat.length b) := Lib.hid ⟨by rw [hD1, hN1], by rw [hN1]; omega⟩
      have OD1 : Hid (Oct D1) := Lib.hid (by rw [hD1]; exact S1.out.oct)
      have HDD : Hid (∀ z : Nat, z < K.dat.length → D1[z]? = K.dat[z]?) := Lib.hid (fun z _ => by rw [hD1])
      have BQ2 : Hid (Blk W2 q TP (pcs (upd F (.pc a b)) lu)) := Lib.hid (by rw [hW2]; exact BQ1.out)
      have U2 : Hid (Vw W2 (some ⟨ub, uo, none⟩) m 1 (octs ((F.drop a).take m))) := Lib.hid (by rw [hW2]; exact U1.out)
      have SG2 : Hid (Sl W2 TG 2 l.W K.got.length l.wc (gcs K.got)) := Lib.hid (by rw [hW2]; exact S1.out.got)
      have K2 : Hid (Keep w.heap.size (p :: blks l.D) w W2) := Lib.hid (by rw [hW2]; exact K1.out.mono (Nat.le_refl _) (by simp))
      have hgl1 : g1 < w.heap.size := HS.out.data.blk (by rw [hg1]; simp [blks])
      have HG1 : Hid (p ≠ g1 ∧ q ≠ g1 ∧ ub ≠ g1 ∧ ∀ y, y ∈ blks l.W → y ∉ [g1]) := Lib.hid ⟨fun hh => HS.out.nD (by rw [hg1, hh]; simp [blks]), by have := HQ.out; omega, fun hh => HUB.out.2 (by rw [hg1, hh]; simp [blks]), fun y hy hm => HS.out.nDW g1 (by rw [hg1]; simp [blks]) (by rw [← List.mem_singleton.1 hm]; exact hy)⟩
      have HG1L : Hid (g1 < W2.heap.size) := Lib.hid (by rw [hW2]; have := K1.out.size; omega)
      have HGK : Hid (∀ x, x < w.heap.size → x ∈ [g1] → x ∈ p :: blks l.D) := Lib.hid (fun x _ hx => by rw [hg1, List.mem_singleton.1 hx]; simp [blks])
      have HGN1 : Hid (g1 ∈ blks l.D ∨ w.heap.size ≤ g1) := Lib.hid (.inl (by rw [hg1]; simp [blks]))
      rw [← hW2]
      clear hW2 hD1 hN1 hcc hg1 hgl1 z6 z7 c17 c18
      have c18 : W2.cell? ⟨p, 18, none⟩ = some (.slice l.W K.got.length l.wc) := B2.out.cell 18
      have z7 : W2.cell? ⟨q, 7, none⟩ = some (.slice (some ⟨ub, uo, none⟩) m lu.dc) := by rw [← HUD.out, HM.out, ← HDN.out]; exact BQ2.out.cell 7
      go_wp2_with fail
      refine (size_w _ l.W _ l.wc _ F.length (by omega) (by omega) HGN.out HGI.out (by exact SG2.out.vw (by omega))).mono ?_
      rintro e W3 ⟨rfl, hk3⟩
      have B3 := Lib.hid (B2.out.keepS hk3 (by simp))
      have BQ3 := Lib.hid (BQ2.out.keepS hk3 (by simp))
      have U3 := Lib.hid (U2.out.keep0 hk3)
      have SD3 := Lib.hid (SD2.out.keep0 hk3)
      have SG3 := Lib.hid (SG2.out.keep0 hk3)
      have K3 : Hid (Keep w.heap.size (p :: blks l.D) w W3) := Lib.hid (K2.out.trans (hk3.mono K2.out.size (by simp)))
      have z7 : W3.cell? ⟨q, 7, none⟩ = some (.slice (some ⟨ub, uo, none⟩) m lu.dc) := by rw [← HUD.out, HM.out, ← HDN.out]; exact BQ3.out.cell 7
      have hq3 : q < W3.heap.size := BQ3.out.lt
      have HW23 := Lib.hid hk3.size
      clear hk3 c18
      go_wp2_with fail
      go_loopw [58] (fun jj wr => ∃ (k : Nat) (D' : List Int), k ≤ m ∧ jj = .int .i64 k ∧ D'.length = N1 ∧ (∀ z : Nat, D'[z]? = if a ≤ z ∧ z < a + k ∧ ¬ mem K.got (z : Int) then F[z]? else D1[z]?) ∧ Oct D' ∧ Sl wr 5 1 (some ⟨g1, 0, none⟩) N1 cc (octs D') ∧ Keep W3.heap.size [g1] W3 wr) (fun jj _ => m - (intOf jj).toNat)
      case atStart => exact ⟨0, D1, Nat.zero_le _, rfl, HN1.out.1, (fun z => by rw [if_neg (by omega)]), OD1.out, SD3.out, Keep.refl _ _ _⟩
      case round =>
        obtain ⟨k, D', hk, rfl, hD, hDz, hDo, hsl, hkw⟩ := hrel
        have HDL := Lib.hid hD
        have HDZ := Lib.hid hDz
        have HDO := Lib.hid hDo
        have SL := Lib.hid hsl
        have KW := Lib.hid hkw
        have BR := Lib.hid (B3.out.keepS hkw (by simpa using HG1.out.1))
        have BQR := Lib.hid (BQ3.out.keepS hkw (by simpa using HG1.out.2.1))
        have UR := Lib.hid (U3.out.keepS hkw (by simpa [blks] using HG1.out.2.2.1))
        have SGR := Lib.hid (SG3.out.keepS hkw HG1.out.2.2.2)
        clear hD hDz hDo hsl hkw z7
        by_cases hlt : k < m
        · have hki : (k : Int) < (m : Int) := by omega
          obtain ⟨b2, o2, u, hub, _, hu, hc⟩ := UR.out.at_ hlt
          have hue : b2 = ub ∧ o2 = uo := by injection hub with h; injection h with h1 h2; exact ⟨h1.symm, h2.symm⟩
          obtain ⟨rfl, rfl⟩ := hue
          obtain ⟨x, hx, rfl⟩ : ∃ x, F[a + k]? = some x ∧ u = .int .u8 x := by
            have hmb := HM.out
            rw [List.getElem?_map, List.getElem?_take_of_lt hlt, List.getElem?_drop] at hu
            cases hx : F[a + k]? with
            | none => rw [hx] at hu; cases hu
            | some x => rw [hx] at hu; exact ⟨x, rfl, (Option.some.inj hu).symm⟩
          have hxr : 0 ≤ x ∧ x ≤ 255 := HO.out x (List.mem_of_getElem? hx)
          have HX := Lib.hid hx
          have ewk : IntKind.i64.wrap ((a : Int) + (k : Int)) = (a : Int) + (k : Int) := i64k (by omega) (by omega)
          obtain ⟨vv, hvv⟩ : ∃ vv, decide (mem K.got ((a : Int) + (k : Int))) = vv := ⟨_, rfl⟩
          have HVV := Lib.hid hvv
          clear hub hu hx hvv
          have x18 : wr.cell? ⟨p, 18, none⟩ = some (.slice l.W K.got.length l.wc) := BR.out.cell 18
          have x6 : wr.cell? ⟨q, 6, none⟩ = some (.int .i64 a) := BQR.out.cell 6
          go_upto_region 11 with fail
          refine wp_region_held_drew (S := (fun w' => w'.cell? ⟨p, 18, none⟩ = some (.slice l.W K.got.length l.wc) ∧ w'.cell? ⟨q, 6, none⟩ = some (.int .i64 a))) (by kernel_rfl) (by exact ⟨x18, x6⟩) (fun hHeld => ?_)
          refine tkH (i := 0) (oi := { dst := some 63, op := Op.move (Operand.tmp 0), type := 79, pos := _, after := _, guard := none }) rfl (by assumption) ?_
          (try simp only [Act.put, List.setIfInBounds_toArray, List.set_cons_zero, List.set_cons_succ])
          refine tkH (i := 1) (oi := { dst := some 64, op := Op.nilCheck (Operand.tmp 63), type := 0, pos := _, after := _, guard := none }) rfl (by assumption) ?_
          (try simp only [Act.put, List.setIfInBounds_toArray, List.set_cons_zero, List.set_cons_succ])
          refine tkH (i := 2) (oi := { dst := some 65, op := Op.fieldAddr 150 (Operand.tmp 64) 15, type := 0, pos := _, after := _, guard := none }) rfl (by assumption) ?_
          (try simp only [Act.put, List.setIfInBounds_toArray, List.set_cons_zero, List.set_cons_succ])
          refine tkH (i := 3) (oi := { dst := some 66, op := Op.load 83 (Operand.tmp 65), type := 83, pos := _, after := _, guard := none }) rfl (by assumption) ?_
          (try simp only [Act.put, List.setIfInBounds_toArray, List.set_cons_zero, List.set_cons_succ])
          refine tkH (i := 4) (oi := { dst := some 67, op := Op.fieldAddr 85 (Operand.tmp 3) 5, type := 0, pos := _, after := _, guard := none }) rfl (by assumption) ?_
          (try simp only [Act.put, List.setIfInBounds_toArray, List.set_cons_zero, List.set_cons_succ])
          refine tkH (i := 5) (oi := { dst := some 68, op := Op.load 3 (Operand.tmp 67), type := 3, pos := _, after := _, guard := none }) rfl (by assumption) ?_
          (try simp only [Act.put, List.setIfInBounds_toArray, List.set_cons_zero, List.set_cons_succ])
          refine tkH (i := 6) (oi := { dst := some 69, op := Op.move (Operand.tmp 9), type := 3, pos := _, after := _, guard := none }) rfl (by assumption) ?_
          (try simp only [Act.put, List.setIfInBounds_toArray, List.set_cons_zero, List.set_cons_succ])
          refine tkH (i := 7) (oi := { dst := some 70, op := Op.binOp BinOp.add 3 (Operand.tmp 68) (Operand.tmp 69) 3, type := 3, pos := _, after := _, guard := none }) rfl (by assumption) ?_
          (try simp only [Act.put, List.setIfInBounds_toArray, List.set_cons_zero, List.set_cons_succ])
          refine wpAnyH_ready (rs := [8]) (by kernel_rfl) (by simp) ?_
          refine (AllReadyH.cons (o := { dst := some 71, op := Op.call { callee := Callee.value (Operand.func 152), args := #[Operand.tmp 66, Operand.tmp 70], argTypes := #[83, 3] }, type := 4, pos := _, after := _, guard := none }) rfl (fun KQ hK => ?_) AllReadyH.nil)
          go_simp
          refine (has_w _ l.W _ l.wc _ ((a : Int) + (k : Int)) vv (by omega) SGR.out.cap.1 SGR.out.cap.2 (by exact SGR.out.drew.vw (by omega)) HVV.out).mono ?_
          rintro e W4 ⟨rfl, hk4⟩
          have B4 := Lib.hid (BR.out.drew.keepS hk4 (by simp))
          have BQ4 := Lib.hid (BQR.out.drew.keepS hk4 (by simp))
          have SL4 := Lib.hid (SL.out.drew.keep0 hk4)
          have K4 : Hid (Keep W3.heap.size [g1] W3 W4) := Lib.hid (KW.out.drew.trans (hk4.mono KW.out.drew.size (by simp)))
          have x18 : W4.cell? ⟨p, 18, none⟩ = some (.slice l.W K.got.length l.wc) := B4.out.cell 18
          have x6 : W4.cell? ⟨q, 6, none⟩ = some (.int .i64 a) := BQ4.out.cell 6
          clear hk4 hc
          refine hK.out _ _ (by exact ⟨x18, x6⟩) (fun hHeld => ?_)
          clear hK KQ
          (try simp only [Act.put, List.setIfInBounds_toArray, List.set_cons_zero, List.set_cons_succ])
          refine tkH (i := 9) (oi := { dst := some 72, op := Op.unOp UnOp.not 4 (Operand.tmp 71), type := 4, pos := _, after := _, guard := none }) rfl (by assumption) ?_
          (try simp only [Act.put, List.setIfInBounds_toArray, List.set_cons_zero, List.set_cons_succ])
          refine wpAnyH_done (by kernel_rfl) ?_ _
          clear hHeld
          cases vv
          · have hnm : ¬ mem K.got (((a + k : Nat) : Int)) := by have := of_decide_eq_false HVV.out; rwa [show ((a + k : Nat) : Int) = (a : Int) + (k : Int) by omega]
            have hak : a + k < N1 := by have := HN1.out.2; omega
            have hakI : (a : Int) + (k : Int) < (N1 : Int) := by omega
            have hak0 : (0 : Int) ≤ (a : Int) + (k : Int) := by omega
            have hcc : (N1 : Int) ≤ (cc : Int) := by have := SL4.out.cap.1; omega
            have etn : ((a : Int) + (k : Int)).toNat = a + k := by omega
            have hoc : ∃ y, W4.cell? ⟨g1, a + k, none⟩ = some y := by
              obtain ⟨gg, hgg, _, hcc⟩ := SL4.out.cell (j := a + k) (by omega)
              injection hgg with hgg
              injection hgg with hgg
              subst hgg
              rw [hcc]
              exact ⟨_, List.getElem?_eq_getElem (by rw [List.length_map, HDL.out]; exact hak)⟩
            obtain ⟨y, hy⟩ := hoc
            have hyf : W4.frozen? ⟨g1, a + k, none⟩ = false := slF SL4.out _
            have HNM := Lib.hid hnm
            have HAK := Lib.hid hak
            have x17 : W4.cell? ⟨p, 17, none⟩ = some (.slice (some ⟨g1, 0, none⟩) N1 cc) := B4.out.cell 17
            clear hnm hak x18
            go_upto_region 12 with fail
            refine region_anyZ 10 (S := (fun w' => w'.cell? ⟨p, 17, none⟩ = some (.slice (some ⟨g1, 0, none⟩) N1 cc) ∧ w'.cell? ⟨q, 6, none⟩ = some (.int .i64 a))) (by kernel_rfl) (by exact ⟨x17, x6⟩) (fun hHeld => ?_)
            refine tkZ (i := 0) (oi := { dst := some 73, op := Op.move (Operand.tmp 0), type := 79, pos := _, after := _, guard := none }) rfl hHeld ?_
            (try simp only [Act.put, List.setIfInBounds_toArray, List.set_cons_zero, List.set_cons_succ])
            refine tkZ (i := 1) (oi := { dst := some 74, op := Op.nilCheck (Operand.tmp 73), type := 0, pos := _, after := _, guard := none }) rfl hHeld ?_
            (try simp only [Act.put, List.setIfInBounds_toArray, List.set_cons_zero, List.set_cons_succ])
            refine tkZ (i := 2) (oi := { dst := some 75, op := Op.fieldAddr 150 (Operand.tmp 74) 14, type := 0, pos := _, after := _, guard := none }) rfl hHeld ?_
            (try simp only [Act.put, List.setIfInBounds_toArray, List.set_cons_zero, List.set_cons_succ])
            refine tkZ (i := 3) (oi := { dst := some 76, op := Op.load 35 (Operand.tmp 75), type := 35, pos := _, after := _, guard := none }) rfl hHeld ?_
            (try simp only [Act.put, List.setIfInBounds_toArray, List.set_cons_zero, List.set_cons_succ])
            refine tkZ (i := 4) (oi := { dst := some 77, op := Op.fieldAddr 85 (Operand.tmp 3) 5, type := 0, pos := _, after := _, guard := none }) rfl hHeld ?_
            (try simp only [Act.put, List.setIfInBounds_toArray, List.set_cons_zero, List.set_cons_succ])
            refine tkZ (i := 5) (oi := { dst := some 78, op := Op.load 3 (Operand.tmp 77), type := 3, pos := _, after := _, guard := none }) rfl hHeld ?_
            (try simp only [Act.put, List.setIfInBounds_toArray, List.set_cons_zero, List.set_cons_succ])
            refine tkZ (i := 6) (oi := { dst := some 79, op := Op.move (Operand.tmp 9), type := 3, pos := _, after := _, guard := none }) rfl hHeld ?_
            (try simp only [Act.put, List.setIfInBounds_toArray, List.set_cons_zero, List.set_cons_succ])
            refine tkZ (i := 7) (oi := { dst := some 80, op := Op.binOp BinOp.add 3 (Operand.tmp 78) (Operand.tmp 79) 3, type := 3, pos := _, after := _, guard := none }) rfl hHeld ?_
            (try simp only [Act.put, List.setIfInBounds_toArray, List.set_cons_zero, List.set_cons_succ])
            refine tkZ (i := 8) (oi := { dst := some 81, op := Op.move (Operand.tmp 10), type := 5, pos := _, after := _, guard := none }) rfl hHeld ?_
            (try simp only [Act.put, List.setIfInBounds_toArray, List.set_cons_zero, List.set_cons_succ])
            refine tkZ (i := 9) (oi := { dst := some 82, op := Op.indexAddr 35 (Operand.tmp 76) (Operand.tmp 80), type := 0, pos := _, after := _, guard := none }) rfl hHeld ?_
            (try simp only [Act.put, List.setIfInBounds_toArray, List.set_cons_zero, List.set_cons_succ])
            refine anyZ.ready (rs := [10]) (by kernel_rfl) (by simp) ?_
            refine (AllZ.cons (o := { dst := none, op := Op.store 5 (Operand.tmp 82) (Operand.tmp 81), type := 0, pos := _, after := _, guard := none }) rfl (fun KQ hK => ?_) AllZ.nil)
            go_simp
            refine hK.out _ _ (fun h => absurd h (by decide)) (fun hHeld => ?_)
            clear hK KQ
            (try simp only [Act.put, List.setIfInBounds_toArray, List.set_cons_zero, List.set_cons_succ])
            refine anyZ.done (by kernel_rfl) ?_ _
            clear hHeld
            clear hHeld
            go_wp2_with fail
            go_roundw
            case rel =>
              refine ⟨k + 1, D'.set (a + k) x, by omega, by go_num, by rw [List.length_set]; exact HDL.out, fun z => ?_, oct_set HDO.out _ hxr, by rw [octs_set]; exact (SL4.out.setAt (by have := HAK.out; omega) _).drew, (K4.out.set1).drew⟩
              rw [List.getElem?_set]
              by_cases hz : a + k = z
              · subst hz
                rw [if_pos rfl, if_pos (by rw [HDL.out]; exact HAK.out), if_pos ⟨by omega, by omega, HNM.out⟩, HX.out]
              · rw [if_neg hz, HDZ.out z]
                have e2 : (a ≤ z ∧ z < a + k ∧ ¬ mem K.got (z : Int)) ↔ (a ≤ z ∧ z < a + (k + 1) ∧ ¬ mem K.got (z : Int)) := by constructor <;> (rintro ⟨h1, h2, h3⟩; exact ⟨h1, by omega, h3⟩)
                simp only [e2]
            case measure => simp [intOf] <;> omega
          · have hmm : mem K.got (((a + k : Nat) : Int)) := by have := of_decide_eq_true HVV.out; rwa [show ((a + k : Nat) : Int) = (a : Int) + (k : Int) by omega]
            have HMM := Lib.hid hmm
            clear hmm
            go_wp2_with fail
            go_roundw
            case rel =>
              refine ⟨k + 1, D', by omega, by go_num, HDL.out, fun z => ?_, HDO.out, SL4.out, K4.out⟩
              rw [HDZ.out z]
              by_cases hz : a + k = z
              · subst hz
                rw [if_neg (by omega), if_neg (fun hh => hh.2.2 HMM.out)]
              · have e2 : (a ≤ z ∧ z < a + k ∧ ¬ mem K.got (z : Int)) ↔ (a ≤ z ∧ z < a + (k + 1) ∧ ¬ mem K.got (z : Int)) := by constructor <;> (rintro ⟨h1, h2, h3⟩; exact ⟨h1, by omega, h3⟩)
                simp only [e2]
            case measure => simp [intOf] <;> omega
        · obtain rfl : m = k := by omega
          have x18 : wr.cell? ⟨p, 18, none⟩ = some (.slice l.W K.got.length l.wc) := BR.out.cell 18
          have x6 : wr.cell? ⟨q, 6, none⟩ = some (.int .i64 a) := BQR.out.cell 6
          go_upto_region 14 with fail
          refine region_anyZ 12 (S := (fun w' => w'.cell? ⟨p, 18, none⟩ = some (.slice l.W K.got.length l.wc) ∧ w'.cell? ⟨q, 6, none⟩ = some (.int .i64 a))) (by kernel_rfl) (by exact ⟨x18, x6⟩) (fun hHeld => ?_)
          refine tkZ (i := 0) (oi := { dst := some 84, op := Op.move (Operand.tmp 0), type := 79, pos := _, after := _, guard := none }) rfl hHeld ?_
          (try simp only [Act.put, List.setIfInBounds_toArray, List.set_cons_zero, List.set_cons_succ])
          refine tkZ (i := 1) (oi := { dst := some 85, op := Op.move (Operand.tmp 0), type := 79, pos := _, after := _, guard := none }) rfl hHeld ?_
          (try simp only [Act.put, List.setIfInBounds_toArray, List.set_cons_zero, List.set_cons_succ])
          refine tkZ (i := 2) (oi := { dst := some 86, op := Op.nilCheck (Operand.tmp 85), type := 0, pos := _, after := _, guard := none }) rfl hHeld ?_
          (try simp only [Act.put, List.setIfInBounds_toArray, List.set_cons_zero, List.set_cons_succ])
          refine tkZ (i := 3) (oi := { dst := some 87, op := Op.fieldAddr 150 (Operand.tmp 86) 15, type := 0, pos := _, after := _, guard := none }) rfl hHeld ?_
          (try simp only [Act.put, List.setIfInBounds_toArray, List.set_cons_zero, List.set_cons_succ])
          refine tkZ (i := 4) (oi := { dst := some 88, op := Op.load 83 (Operand.tmp 87), type := 83, pos := _, after := _, guard := none }) rfl hHeld ?_
          (try simp only [Act.put, List.setIfInBounds_toArray, List.set_cons_zero, List.set_cons_succ])
          refine tkZ (i := 5) (oi := { dst := some 89, op := Op.fieldAddr 85 (Operand.tmp 3) 5, type := 0, pos := _, after := _, guard := none }) rfl hHeld ?_
          (try simp only [Act.put, List.setIfInBounds_toArray, List.set_cons_zero, List.set_cons_succ])
          refine tkZ (i := 6) (oi := { dst := some 90, op := Op.load 3 (Operand.tmp 89), type := 3, pos := _, after := _, guard := none }) rfl hHeld ?_
          (try simp only [Act.put, List.setIfInBounds_toArray, List.set_cons_zero, List.set_cons_succ])
          refine tkZ (i := 7) (oi := { dst := some 91, op := Op.move (Operand.tmp 5), type := 3, pos := _, after := _, guard := none }) rfl hHeld ?_
          (try simp only [Act.put, List.setIfInBounds_toArray, List.set_cons_zero, List.set_cons_succ])
          refine tkZ (i := 8) (oi := { dst := some 92, op := Op.build 158 #[(0, Operand.tmp 90), (1, Operand.tmp 91)], type := 158, pos := _, after := _, guard := none }) rfl hHeld ?_
          (try simp only [Act.put, List.setIfInBounds_toArray, List.set_cons_zero, List.set_cons_succ])
          refine anyZ.ready (rs := [9]) (by kernel_rfl) (by simp) ?_
          refine (AllZ.cons (o := { dst := some 93, op := Op.call { callee := Callee.value (Operand.func 136), args := #[Operand.tmp 88, Operand.tmp 92], argTypes := #[83, 158] }, type := 83, pos := _, after := _, guard := none }) rfl (fun KQ hK => ?_) AllZ.nil)
          go_simp
          refine (add_w _ l.W _ l.wc _ ⟨a, b⟩ (by omega) (by exact SGR.out.drew.vw (by omega))).mono ?_
          rintro e W5 ⟨Y, yc, N, rfl, hs5, hn5, hm5, hl5, hk5, hf5⟩
          have S5 := Lib.hid hs5
          have N5 := Lib.hid hn5
          have M5 := Lib.hid hm5
          have F5 : Hid (∀ y, y ∈ blks Y → wr.heap.size ≤ y) := Lib.hid hf5
          have B5 := Lib.hid (BR.out.drew.keepS hk5 (by simp))
          have BQ5 := Lib.hid (BQR.out.drew.keepS hk5 (by simp))
          have SL5 := Lib.hid (SL.out.drew.keep0 hk5)
          have K5 : Hid (Keep W3.heap.size [g1] W3 W5) := Lib.hid (KW.out.drew.trans (hk5.mono KW.out.drew.size (by simp)))
          have x18 : W5.cell? ⟨p, 18, none⟩ = some (.slice l.W K.got.length l.wc) := B5.out.cell 18
          have x18f := B5.out.frozen 18
          have x6 : W5.cell? ⟨q, 6, none⟩ = some (.int .i64 a) := BQ5.out.cell 6
          clear hs5 hn5 hm5 hl5 hk5 hf5
          refine hK.out _ _ (fun _ => (by exact ⟨x18, x6⟩)) (fun hHeld => ?_)
          clear hK KQ
          replace hHeld := hHeld (by kernel_rfl)
          (try simp only [Act.put, List.setIfInBounds_toArray, List.set_cons_zero, List.set_cons_succ])
          refine anyZ.takeU (i := 10) (oi := { dst := some 94, op := Op.nilCheck (Operand.tmp 84), type := 0, pos := _, after := _, guard := none }) (v := _) rfl (by decide) (by kernel_rfl) (by kernel_rfl) (by kernel_rfl) (fun _ _ _ h => h) (Or.inl ⟨by rfl, by (intro wS hSw; (try dsimp only at hSw); go_simp; try with_reducible rfl)⟩) (by exact hHeld) ?_
          (try simp only [Act.put, List.setIfInBounds_toArray, List.set_cons_zero, List.set_cons_succ])
          refine tkZ (i := 11) (oi := { dst := some 95, op := Op.fieldAddr 150 (Operand.tmp 94) 15, type := 0, pos := _, after := _, guard := none }) rfl hHeld ?_
          (try simp only [Act.put, List.setIfInBounds_toArray, List.set_cons_zero, List.set_cons_succ])
          refine anyZ.ready (rs := [12]) (by kernel_rfl) (by simp) ?_
          refine (AllZ.cons (o := { dst := none, op := Op.store 83 (Operand.tmp 95) (Operand.tmp 93), type := 0, pos := _, after := _, guard := none }) rfl (fun KQ hK => ?_) AllZ.nil)
          go_simp
          refine hK.out _ _ (fun h => absurd h (by decide)) (fun hHeld => ?_)
          clear hK KQ
          (try simp only [Act.put, List.setIfInBounds_toArray, List.set_cons_zero, List.set_cons_succ])
          refine anyZ.done (by kernel_rfl) ?_ _
          clear hHeld
          have hfr := F5.out
          have hwz := KW.out.size
          have hk3z := K3.out.size
          have hpY : p ∉ blks Y := fun hm => by have := hfr _ hm; have := BR.out.lt; omega
          have hgY : g1 ∉ blks Y := fun hm => by have := hfr _ hm; have := HG1L.out; have := HW23.out; omega
          have B6 : Hid (Blk (W5.setCell ⟨p, 18, none⟩ (.slice Y N.length yc)) p TK (kcs F c ⟨some ⟨g1, 0, none⟩, cc, Y, yc⟩ { K with dat := D', got := N })) := Lib.hid (by have hb := B5.out.set_ 18 (.slice Y N.length yc); have e3 : N1 = D'.length := HDL.out.symm; rw [kcs_dat (D := D') e3] at hb; exact hb)
          have SL6 : Hid (Sl (W5.setCell ⟨p, 18, none⟩ (.slice Y N.length yc)) 5 1 (some ⟨g1, 0, none⟩) N1 cc (octs D')) := Lib.hid (SL5.out.far _ (by simpa [blks] using HG1.out.1))
          have S6 : Hid (Sl (W5.setCell ⟨p, 18, none⟩ (.slice Y N.length yc)) TG 2 Y N.length yc (gcs N)) := Lib.hid (S5.out.far _ hpY)
          have K6 : Hid (Keep w.heap.size (p :: blks l.D) w (W5.setCell ⟨p, 18, none⟩ (.slice Y N.length yc))) := Lib.hid ((K3.out.trans (K5.out.mono K3.out.size HGK.out)).setS (by simp))
          have hNi : ∀ z, mem N z → 0 ≤ z ∧ z < (F.length : Int) := fun z hz => by
            rcases (M5.out z).1 hz with hh | hh
            · exact HGI.out z hh
            · simp only at hh; omega
          have hNl : N.length ≤ 300 := by have := nrm_len (a := 0) (N := (F.length : Int)) N5.out hNi (by omega); omega
          have HNI := Lib.hid hNi
          clear hNi hpY hgY hfr x18 x18f
          have z18 : (W5.setCell ⟨p, 18, none⟩ (.slice Y N.length yc)).cell? ⟨p, 18, none⟩ = some (.slice Y N.length yc) := B6.out.cell 18
          go_wp2_with fail
          refine (size_w _ Y _ yc _ F.length (by omega) (by omega) N5.out HNI.out (by exact S6.out.vw (by omega))).mono ?_
          rintro e W7 ⟨rfl, hk7⟩
          have B7 := Lib.hid (B6.out.keepS hk7 (by simp))
          have SL7 := Lib.hid (SL6.out.keep0 hk7)
          have S7 := Lib.hid (S6.out.keep0 hk7)
          have K7 : Hid (Keep w.heap.size (p :: blks l.D) w W7) := Lib.hid (K6.out.trans (hk7.mono K6.out.size (by simp)))
          have hg7 : w.heap.size ≤ wr.heap.size := Nat.le_trans K3.out.size KW.out.size
          clear hk7 z18
          have D1F : Hid (∀ z : Nat, mem K.got z → D'[z]? = K.dat[z]?) := Lib.hid (fun z hz => by rw [HDZ.out z, if_neg (fun hh => hh.2.2 hz), HDD.out z (HGD.out z hz)])
          have D2F : Hid (∀ z : Nat, a ≤ z → z < b → ¬ mem K.got z → D'[z]? = F[z]?) := Lib.hid (fun z h1 h2 h3 => by have := HM.out; rw [HDZ.out z, if_pos ⟨h1, by omega, h3⟩])
          have LEN : Hid (D'.length = max K.dat.length b) := Lib.hid (by rw [HDL.out]; exact HN1.out.2.symm ▸ rfl)
          have FB : Hid (∀ y, y ∈ sbl p ⟨some ⟨g1, 0, none⟩, cc, Y, yc⟩ → y ∈ sbl p l ∨ w.heap.size ≤ y) := Lib.hid (fun y hy => by
            simp only [sbl, blks, List.mem_cons, List.mem_append, List.not_mem_nil, or_false] at hy
            rcases hy with hh | hh | hh
            · left; simp [sbl, hh]
            · rcases HGN1.out with h9 | h9
              · left; simp [sbl, hh, h9]
              · right; omega
            · right; have := F5.out y hh; omega)
          have nD7 : Hid (p ∉ blks (some (⟨g1, 0, none⟩ : Addr))) := Lib.hid (by simpa [blks] using HG1.out.1)
          have nW7 : Hid (p ∉ blks Y) := Lib.hid (fun hm => by have := F5.out _ hm; have := BR.out.lt; omega)
          have nDW7 : Hid (∀ y, y ∈ blks (some (⟨g1, 0, none⟩ : Addr)) → y ∉ blks Y) := Lib.hid (fun y hy hm => by simp only [blks, List.mem_singleton] at hy; subst hy; have := F5.out _ hm; have := HG1L.out; have := HW23.out; have := KW.out.size; omega)
          by_cases hw : width K.got < width N
          · have B8 := Lib.hid B7.out
            go_wp2_with fail
            refine (kprog_w _ p F c _ _ B8.out).mono ?_
            rintro e W8 ⟨rfl, hb8, hk8⟩
            have SK8 : Hid (SkAt W8 p F c ⟨some ⟨g1, 0, none⟩, cc, Y, yc⟩ { K with dat := D', got := N, tm := K.now, tr := 0 }) := Lib.hid (SkAt.same (K := { K with dat := D', got := N }) ⟨B7.out, by rw [show ({ K with dat := D', got := N } : Sk).dat.length = N1 from HDL.out]; exact SL7.out, HDO.out, nD7.out, S7.out, nW7.out, nDW7.out⟩ rfl rfl hb8 hk8)
            have K8 : Hid (Keep w.heap.size (p :: blks l.D) w W8) := Lib.hid (K7.out.trans (hk8.mono K7.out.size (fun y _ hy => by simp only [List.mem_singleton] at hy; simp [hy])))
            clear hb8 hk8
            go_wp2_with fail
            go_ret
            refine ⟨⟨some ⟨g1, 0, none⟩, cc, Y, yc⟩, N, D', rfl, N5.out, fun z => M5.out z, LEN.out, D1F.out, D2F.out, ?_, K8.out, FB.out⟩
            rw [if_pos hw]
            exact SK8.out
          · go_wp2_with fail
            go_ret
            refine ⟨⟨some ⟨g1, 0, none⟩, cc, Y, yc⟩, N, D', rfl, N5.out, fun z => M5.out z, LEN.out, D1F.out, D2F.out, ?_, K7.out, FB.out⟩
            rw [if_neg (by omega)]
            exact ⟨B7.out, by rw [show ({ K with dat := D', got := N } : Sk).dat.length = N1 from HDL.out]; exact SL7.out, HDO.out, nD7.out, S7.out, nW7.out, nDW7.out⟩
end Go.Proofs.Ytfkbcflgbjncdaa
