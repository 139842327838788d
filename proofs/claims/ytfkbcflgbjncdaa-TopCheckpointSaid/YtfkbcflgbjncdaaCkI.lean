/- (*Ledger).Image: its contract. -/
import Derived.Test.YtfkbcflgbjncdaaLeA
import Derived.Test.YtfkbcflgbjncdaaOctV
import Derived.Deep.MidRow
namespace Go.Proofs.Ytfkbcflgbjncdaa
set_option linter.unusedVariables false
set_option linter.unusedSimpArgs false
open Go.RowKit
def NewOcts (w : World) (L : List Int) (e : Ending) (w' : World) : Prop :=
  ∃ A n c, e = .returned (.slice A n c) ∧ n = L.length ∧ Sl w' 5 1 A n c (octs L) ∧ Keep w.heap.size [] w w' ∧ ∀ x, x ∈ blks A → w.heap.size ≤ x
def encR (r : Rc) : List Int := be r.n 2 ++ be r.m 8
def imageL (L : List Rc) : List Int := L.flatMap encR
theorem encR_len (r : Rc) : (encR r).length = 10 := by simp [encR, be_length]
theorem imageL_len : ∀ (L : List Rc), (imageL L).length = 10 * L.length
  | [] => rfl
  | r :: L => by
    have := imageL_len L
    unfold imageL at this ⊢
    rw [List.flatMap_cons, List.length_append, this, encR_len]; simp; omega
theorem image_take (L : List Rc) (k : Nat) (r : Rc) (h : L[k]? = some r) : imageL (L.take (k + 1)) = imageL (L.take k) ++ be r.n 2 ++ be r.m 8 := by
  unfold imageL
  rw [List.take_add_one, h, List.flatMap_append]
  simp [encR]
theorem run_index_arr (P : Program) (w : World) (t e : TypeId) (n sz : Nat) (fs : Array Field) (i : TypeInfo) (cs : Array Value) (k : Nat) (hk : k < n) (ht : P.underlying t = some (.array n e)) (he : P.underlying e = some (.struct fs)) (hi : P.info? e = some i) (hsz : i.size = sz) :
    (Instr.index t (.agg cs) (.int .i64 (k : Int))).run P w = .ok (.agg (cs.extract (k * sz) (k * sz + sz))) w := by
  have h1 : (0 : Int) ≤ (k : Int) ∧ (k : Int) < (n : Int) := by omega
  simp [Instr.index, run_underlying ht, asIntOf, h1, part, isAgg, run_underlying he, sizeOf, typeInfo, hi, hsz, hk]
theorem rcells_ext (L : List Rc) (k : Nat) (r : Rc) (h : L[k]? = some r) : (L.flatMap rcells).toArray.extract (k * 2) (k * 2 + 2) = #[.int .i64 r.n, .int .u64 r.m] := by
  obtain ⟨h1, h2⟩ := flat_at L k r h
  have hl := flat_len2 L
  have hk : k < L.length := (List.getElem?_eq_some_iff.1 h).1
  apply Array.ext_getElem?
  intro i
  rw [Array.getElem?_extract]
  have hsz : (L.flatMap rcells).toArray.size = 2 * L.length := by rw [List.size_toArray, hl]
  match i with
  | 0 => rw [if_pos (by rw [hsz]; omega), Nat.mul_comm, Nat.add_zero]; simpa using h1
  | 1 => rw [if_pos (by rw [hsz]; omega), Nat.mul_comm]; simpa using h2
  | i + 2 => rw [if_neg (by rw [hsz]; omega)]; rfl
theorem led_range {w : World} {g : Nat} {L : List Rc} (h : Led w g L) : w.rangeAt g 1 (L.flatMap rcells) := by
  intro j v hj
  refine (h.2.1.cell (1 + j)).trans ?_
  rw [Nat.add_comm]
  simpa [lcells] using hj
theorem infoRec : (Try.prog.info? 97).map (·.size) = some 2 := by kernel_rfl
theorem infoRecs : (Try.prog.info? 98).map (·.size) = some 32 := by kernel_rfl
set_option maxRecDepth 10000 in
set_option maxHeartbeats 4000000 in
theorem image_any (w : World) (g : Nat) (L : List Rc) (hL : Led w g L) : Calls Try.prog 21 #[bptr g] w (NewOcts w (imageL L)) := by
  have HL := Lib.hid hL
  have HM := Lib.hid hL.made
  have h16 : L.length = 16 := hL.1
  have H16 := Lib.hid h16
  obtain ⟨i0, hi0, hs0⟩ : ∃ i, Try.prog.info? 97 = some i ∧ i.size = 2 := by
    have := infoRec
    cases h : Try.prog.info? 97 with
    | none => rw [h] at this; cases this
    | some i => rw [h] at this; exact ⟨i, rfl, by simpa using this⟩
  have HIX : Hid (∀ (W : World) (k : Nat) (r : Rc), L[k]? = some r → (Instr.index 98 (.agg (L.flatMap rcells).toArray) (.int .i64 (k : Int))).run Try.prog W = .ok (.agg #[.int .i64 r.n, .int .u64 r.m]) W) := fun W k r h => by
    rw [run_index_arr Try.prog W _ _ 16 2 _ i0 _ k (by have := (List.getElem?_eq_some_iff.1 h).1; omega) Try.underlying98 Try.underlying97 hi0 hs0, rcells_ext L k r h]
  obtain ⟨C, hC⟩ : ∃ C, (L.flatMap rcells).toArray = C := ⟨_, rfl⟩
  have HCC := Lib.hid hC
  rw [hC] at HIX
  clear hL h16 hC hi0 hs0
  go_enter Try.func21, Try.ntmps21
  go_wp2_with fail
  refine (lok_any _ g HM.out).mono ?_
  rintro e w' ⟨rfl, rfl⟩
  go_wp2_with fail
  refine (wnew_any _).mono ?_
  rintro e w1 ⟨x, rfl, hg, hw, hk⟩
  have W1 : Hid (WT w w1 x none []) := ⟨hk, hw, hg, by simp [blks]⟩
  have HL1 := Lib.hid (HL.out.keepS hk (by simp))
  clear hg hw hk
  go_wp2_with (refine wpList_load_mid rfl 98 (.tmp 12) rfl g 1 rfl (L.flatMap rcells) _ (led_range HL1.out) Try.underlying98 rfl (by rw [infoRecs, flat_len2, H16.out]) ?_
               rw [HCC.out])
  go_loopw [14] (fun i wr => ∃ k : Nat, k ≤ 16 ∧ i = .int .i64 k ∧ ∃ A, WT w wr x A (imageL (L.take k))) (fun i _ => 16 - (intOf i).toNat)
  case atStart => exact ⟨0, by omega, rfl, none, W1.out⟩
  case round =>
    obtain ⟨k, hk, rfl, A3, hwt⟩ := hrel
    by_cases hlt : k < 16
    · obtain ⟨r, hr⟩ : ∃ r, L[k]? = some r := ⟨L[k]'(by have := H16.out; omega), List.getElem?_eq_getElem _⟩
      have hix := fun W => HIX.out W k r hr
      have HR := Lib.hid (HL.out.2.2 r (List.mem_of_getElem? hr))
      have HIT := Lib.hid (image_take L k r hr)
      have hel := imageL_len (L.take k)
      have hel2 : (imageL (L.take k)).length ≤ 160 := by rw [hel]; simp; omega
      obtain ⟨E, hE⟩ : ∃ E, imageL (L.take k) = E := ⟨_, rfl⟩
      rw [hE] at hwt HIT hel2
      have HEL := Lib.hid hel2
      have W2 := Lib.hid hwt
      have hk16 : (k : Int) < 16 := by omega
      have u1 : IntKind.u64.wrap r.n = r.n := u64_in _ HR.out.1.1 (by have := HR.out.1.2; omega)
      clear hwt hel hel2 hE hr
      go_wp2_with fail
      obtain ⟨W0, hW0⟩ : ∃ W0, W0 = wr.alloc (.cells #[.int .i64 r.n, .int .u64 r.m] 97) := ⟨_, rfl⟩
      have HW0 : Hid (wr.alloc (.cells #[.int .i64 r.n, .int .u64 r.m] 97) = W0) := hW0.symm
      have HBX : Hid (Blk W0 wr.heap.size 97 #[.int .i64 r.n, .int .u64 r.m]) := by rw [hW0]; exact Blk.new _ _ _
      have W3 : Hid (WT w W0 x A3 E) := by rw [hW0]; exact W2.out.alloc _
      have HPX : Hid (wr.heap.size ∉ x :: blks A3) := fun hm => by
        rcases List.mem_cons.1 hm with h | h
        · have := W2.out.wr.lt; omega
        · have := W2.out.wr.blk _ h; omega
      have b0 : W0.cell? ⟨wr.heap.size, 0, none⟩ = some (.int .i64 r.n) := HBX.out.cell 0
      have b1 : W0.cell? ⟨wr.heap.size, 1, none⟩ = some (.int .u64 r.m) := HBX.out.cell 1
      rw [HW0.out]
      clear hW0 hix
      generalize wr.heap.size = p at *
      refine wp_region_held_drew (S := (fun w' => w'.cell? ⟨p, 0, none⟩ = some (.int .i64 r.n) ∧ w'.cell? ⟨p, 1, none⟩ = some (.int .u64 r.m))) (by kernel_rfl) (by exact ⟨b0, b1⟩) (fun hHeld => ?_)
      refine wpAnyH_take (i := 0) (oi := { dst := some 17, op := Op.move (Operand.tmp 3), type := 117, pos := _, after := #[], guard := none }) (v := _) rfl (by kernel_rfl) (by kernel_rfl) (by kernel_rfl) (fun _ _ _ h => h) (Or.inl ⟨by rfl, by (intro wS hSw; (try dsimp only at hSw); go_simp; try with_reducible rfl)⟩) (by assumption) ?_
      (try simp only [Act.put, List.setIfInBounds_toArray, List.set_cons_zero, List.set_cons_succ])
      refine wpAnyH_take (i := 1) (oi := { dst := some 18, op := Op.fieldAddr 97 (Operand.tmp 5) 0, type := 0, pos := _, after := #[], guard := none }) (v := _) rfl (by kernel_rfl) (by kernel_rfl) (by kernel_rfl) (fun _ _ _ h => h) (Or.inl ⟨by rfl, by (intro wS hSw; (try dsimp only at hSw); go_simp; try with_reducible rfl)⟩) (by assumption) ?_
      (try simp only [Act.put, List.setIfInBounds_toArray, List.set_cons_zero, List.set_cons_succ])
      refine wpAnyH_take (i := 2) (oi := { dst := some 19, op := Op.load 3 (Operand.tmp 18), type := 3, pos := _, after := #[{ on := 1, ground := Ground.data }], guard := none }) (v := _) rfl (by kernel_rfl) (by kernel_rfl) (by kernel_rfl) (fun _ _ _ h => h) (Or.inl ⟨by rfl, by (intro wS hSw; (try dsimp only at hSw); go_simp; try with_reducible rfl)⟩) (by assumption) ?_
      (try simp only [Act.put, List.setIfInBounds_toArray, List.set_cons_zero, List.set_cons_succ])
      refine wpAnyH_take (i := 3) (oi := { dst := some 20, op := Op.convert 3 95 (Operand.tmp 19), type := 95, pos := _, after := #[{ on := 2, ground := Ground.data }], guard := none }) (v := _) rfl (by kernel_rfl) (by kernel_rfl) (by kernel_rfl) (fun _ _ _ h => h) (Or.inl ⟨by rfl, by (intro wS hSw; (try dsimp only at hSw); go_simp; try with_reducible rfl)⟩) (by assumption) ?_
      (try simp only [Act.put, List.setIfInBounds_toArray, List.set_cons_zero, List.set_cons_succ])
      refine wpAnyH_take (i := 5) (oi := { dst := some 22, op := Op.fieldAddr 97 (Operand.tmp 5) 1, type := 0, pos := _, after := #[], guard := none }) (v := _) rfl (by kernel_rfl) (by kernel_rfl) (by kernel_rfl) (fun _ _ _ h => h) (Or.inl ⟨by rfl, by (intro wS hSw; (try dsimp only at hSw); go_simp; try with_reducible rfl)⟩) (by assumption) ?_
      (try simp only [Act.put, List.setIfInBounds_toArray, List.set_cons_zero, List.set_cons_succ])
      refine wpAnyH_take (i := 6) (oi := { dst := some 23, op := Op.load 95 (Operand.tmp 22), type := 95, pos := _, after := #[{ on := 5, ground := Ground.data }], guard := none }) (v := _) rfl (by kernel_rfl) (by kernel_rfl) (by kernel_rfl) (fun _ _ _ h => h) (Or.inl ⟨by rfl, by (intro wS hSw; (try dsimp only at hSw); go_simp; try with_reducible rfl)⟩) (by assumption) ?_
      (try simp only [Act.put, List.setIfInBounds_toArray, List.set_cons_zero, List.set_cons_succ])
      refine wpAnyH_ready (rs := [4]) (by kernel_rfl) (by simp) ?_
      refine AllReadyH.cons (o := { dst := some 21, op := Op.call { callee := Callee.value (Operand.func 50), args := #[Operand.tmp 17, Operand.tmp 20, Operand.const (Value.int IntKind.i64 2)], argTypes := #[117, 95, 3] }, type := 117, pos := _, after := #[{ on := 0, ground := Ground.data }, { on := 3, ground := Ground.data }], guard := none }) rfl (fun K hK => ?_) AllReadyH.nil
      go_simp
      refine (wuint_z _ x A3 E r.n 2 2 rfl HR.out.1.1 (by have := HR.out.1.2; omega) (by omega) (by omega) (by exact W3.out.wr) (by have := HEL.out; omega)).mono ?_
      rintro e w5 ⟨rfl, A5, hw, hk, hb⟩
      have W5 := Lib.hid (W3.out.next hw hk.undrew hb)
      have D5 := Lib.hid (HBX.out.keepS hk.undrew HPX.out)
      have HP5 : Hid (p ∉ x :: blks A5) := fun hm => by rcases List.mem_cons.1 hm with h | h; exact HPX.out (List.mem_cons.2 (.inl h)); rcases hb p h with h | h; exact HPX.out (List.mem_cons_of_mem _ h); exact absurd HBX.out.lt (Nat.not_lt.2 h)
      have q0 : w5.cell? ⟨p, 0, none⟩ = some (.int .i64 r.n) := D5.out.cell 0
      have q1 : w5.cell? ⟨p, 1, none⟩ = some (.int .u64 r.m) := D5.out.cell 1
      clear hw hk hb
      refine hK.out _ _ (by exact ⟨q0, q1⟩) (fun hHeld => ?_)
      clear hK K
      (try simp only [Act.put, List.setIfInBounds_toArray, List.set_cons_zero, List.set_cons_succ])
      refine wpAnyH_ready (rs := [7]) (by kernel_rfl) (by simp) ?_
      refine AllReadyH.cons (o := { dst := some 24, op := Op.call { callee := Callee.value (Operand.func 50), args := #[Operand.tmp 21, Operand.tmp 23, Operand.const (Value.int IntKind.i64 8)], argTypes := #[117, 95, 3] }, type := 117, pos := _, after := #[{ on := 4, ground := Ground.data }, { on := 6, ground := Ground.data }, { on := 4, ground := Ground.chain }], guard := none }) rfl (fun K hK => ?_) AllReadyH.nil
      go_simp
      refine (wuint_z _ x A5 _ r.m 8 8 rfl HR.out.2.1 HR.out.2.2 (by omega) (by omega) (by exact W5.out.wr) (by have := HEL.out; simp [be_length]; omega)).mono ?_
      rintro e w6 ⟨rfl, A6, hw, hk, hb⟩
      have W6 := Lib.hid (W5.out.next hw hk hb)
      have D6 := D5.out.keepS hk HP5.out
      have z0 : w6.cell? ⟨p, 0, none⟩ = some (.int .i64 r.n) := D6.cell 0
      have z1 : w6.cell? ⟨p, 1, none⟩ = some (.int .u64 r.m) := D6.cell 1
      clear hw hk hb D6
      refine hK.out _ _ (by exact ⟨z0, z1⟩) (fun hHeld => ?_)
      clear hK K
      (try simp only [Act.put, List.setIfInBounds_toArray, List.set_cons_zero, List.set_cons_succ])
      refine wpAnyH_done (by kernel_rfl) ?_ _
      go_wp2_with fail
      go_roundw
      case rel => exact ⟨k + 1, by omega, by go_num, A6, by rw [HIT.out]; exact W6.out⟩
      case measure => simp [intOf] <;> omega
    · obtain rfl : k = 16 := by omega
      rw [List.take_of_length_le (by rw [H16.out]; omega)] at hwt
      have W2 := Lib.hid hwt
      have hl := imageL_len L
      have HLL := Lib.hid hl
      clear hwt hl
      go_wp2_with fail
      refine (wbytes_any _ x A3 _ W2.out.wr (by rw [HLL.out, H16.out]; omega)).mono ?_
      rintro e w7 ⟨A7, n7, c7, rfl, hn, hs, hk, hb⟩
      have HN := Lib.hid hn
      have HS := Lib.hid hs
      have K7 : Hid (Keep w.heap.size [] w w7) := W2.out.keep.chain0 (Nat.le_refl _) hk
      have HB : Hid (∀ y, y ∈ blks A7 → w.heap.size ≤ y) := fun y hy => Nat.le_trans W2.out.keep.size (hb y hy)
      clear hn hs hk hb
      go_wp2_with fail
      go_ret
      exact ⟨A7, n7, c7, rfl, HN.out, HS.out, K7.out, HB.out⟩
end Go.Proofs.Ytfkbcflgbjncdaa
