/- The law package of the octets: read. -/
import Derived.Test.YtalhojnkdcopeaaLawB
namespace Go.Proofs.Ytalhojnkdcopeaa
set_option linter.unusedVariables false
set_option linter.unusedSimpArgs false
open Go.RowKit
theorem stB_len {s : RS} {z : Int} {B : List Int} {s' : RS} (hok : RSok s) (h : stB s z = (B, s')) : B.length ≤ 100000000 := by
  cases s with
  | none => unfold stB at h; cases h; simp
  | some L =>
    obtain ⟨hO, hL⟩ := hok L rfl
    unfold stB at h
    simp only at h
    split at h
    · cases h; simp
    · cases h
      unfold tkB
      obtain ⟨n, k, hnk⟩ : ∃ n k, tkC L z = (n, k) := ⟨_, _, rfl⟩
      rw [hnk]
      simp only
      split
      · simp
      · simp only [List.length_take, List.length_drop]; omega
def ReadPost (w : World) (g g2 : Nat) (X X2 : Option Addr) (s' : RS) (e : Ending) (w' : World) : Prop :=
  ∃ X' X2', e = .returned (.bool true) ∧ RO w' g X' s' ∧ RX w' g2 X2' s' ∧ Keep w.heap.size [g, g2] w w' ∧ (∀ x, x ∈ blks X' → x ∈ blks X) ∧ (∀ x, x ∈ blks X2' → x ∈ blks X2)
/-- what is known on read's way -/
structure RW (w W : World) (g g2 : Nat) (X X2 : Option Addr) (s s2 : RS) (v : Vl) (Xo Xo2 : Option Addr) : Prop where
  keep : Keep w.heap.size [g, g2] w W
  o : RO W g X s
  x : RX W g2 X2 s2
  hX : ∀ y, y ∈ blks X → y ∈ blks Xo
  hX2 : ∀ y, y ∈ blks X2 → y ∈ blks Xo2
  box : Blk W w.heap.size 39 (vcells v)
/-- the readers apart -/
structure RApart (w : World) (g g2 : Nat) (X X2 : Option Addr) : Prop where
  ne : g ≠ g2
  hg : g < w.heap.size
  hg2 : g2 < w.heap.size
  h1 : g ∉ blks X2
  h2 : g2 ∉ blks X
theorem read_box {w : World} {g g2 : Nat} {X X2 : Option Addr} {s s2 : RS} (v : Vl) (h : RO w g X s) (h2 : RX w g2 X2 s2) : RW w (w.alloc (.cells (vcells v) 39)) g g2 X X2 s s2 v X X2 :=
  ⟨(Keep.refl _ _ w).alloc (Nat.le_refl _) _, h.keepS (S := []) ((Keep.refl _ _ w).alloc (Nat.le_refl _) _) (by simp) (by simp), h2.keepS (S := []) ((Keep.refl _ _ w).alloc (Nat.le_refl _) _) (by simp) (by simp), fun _ h => h, fun _ h => h, Blk.new _ _ _⟩
theorem RW.first {w W W' : World} {g g2 : Nat} {X X2 X' Xo Xo2 : Option Addr} {s s2 s' : RS} {v : Vl} (h : RW w W g g2 X X2 s s2 v Xo Xo2) (ap : RApart w g g2 Xo Xo2) (ho : RO W' g X' s') (hk : Keep W.heap.size [g] W W') (hx : ∀ y, y ∈ blks X' → y ∈ blks X) :
    RW w W' g g2 X' X2 s' s2 v Xo Xo2 := by
  have hz := h.keep.size
  refine ⟨h.keep.trans (hk.mono hz (fun x _ hm => by simp at hm; simp [hm])), ho, h.x.keepS hk (by simpa using ap.ne.symm) (fun x hx hm => ?_), fun y hy => h.hX y (hx y hy), h.hX2, h.box.keepS hk (fun hm => by simp at hm; have := ap.hg; omega)⟩
  simp at hm
  subst hm
  exact ap.h1 (h.hX2 _ hx)
theorem RW.second {w W W' : World} {g g2 : Nat} {X X2 X2' Xo Xo2 : Option Addr} {s s2 s' : RS} {v : Vl} (h : RW w W g g2 X X2 s s2 v Xo Xo2) (ap : RApart w g g2 Xo Xo2) (hx' : RX W' g2 X2' s') (hk : Keep W.heap.size [g2] W W') (hx : ∀ y, y ∈ blks X2' → y ∈ blks X2) :
    RW w W' g g2 X X2' s s' v Xo Xo2 := by
  have hz := h.keep.size
  refine ⟨h.keep.trans (hk.mono hz (fun x _ hm => by simp at hm; simp [hm])), h.o.keepS hk (by simpa using ap.ne) (fun x hx hm => ?_), hx', h.hX, fun y hy => h.hX2 y (hx y hy), h.box.keepS hk (fun hm => by simp at hm; have := ap.hg2; omega)⟩
  simp at hm
  subst hm
  exact ap.h2 (h.hX _ hx)
theorem RW.post {w W : World} {g g2 : Nat} {X X2 Xo Xo2 : Option Addr} {s : RS} {v : Vl} (h : RW w W g g2 X X2 s s v Xo Xo2) : ReadPost w g g2 Xo Xo2 s (.returned (.bool true)) W :=
  ⟨X, X2, rfl, h.o, h.x, h.keep, h.hX, h.hX2⟩
theorem RW.undrew {w W : World} {g g2 : Nat} {X X2 Xo Xo2 : Option Addr} {s s2 : RS} {v : Vl} (h : RW w W g g2 X X2 s s2 v Xo Xo2) : RW w W.drew g g2 X X2 s s2 v Xo Xo2 :=
  ⟨h.keep.drew, h.o.keepS (S := []) (Keep.refl _ _ _).drew (by simp) (by simp), h.x.keepS (S := []) (Keep.refl _ _ _).drew (by simp) (by simp), h.hX, h.hX2, h.box.drew⟩
set_option maxRecDepth 10000 in
set_option maxHeartbeats 2000000 in
theorem read_0 (w : World) (g g2 : Nat) (X X2 : Option Addr) (s : RS) (v : Vl) (hk : v.k = 0) (hok : RSok s) (ap : RApart w g g2 X X2) (hr : RO w g X s) (hx : RX w g2 X2 s) :
    Calls Try.prog 18 #[bptr g, bptr g2, vagg v] w (ReadPost w g g2 X X2 (stU s v.z).2) := by
  have AP := Lib.hid ap
  have HOK := Lib.hid hok
  have B0 := Lib.hid (read_box v hr hx)
  have q0 : (v.k == 0) = true := beq_iff_eq.2 hk
  obtain ⟨W0, hW0⟩ : ∃ W0, W0 = w.alloc (.cells (vcells v) 39) := ⟨_, rfl⟩
  rw [← hW0] at B0
  have HW0 : Hid (w.alloc (.cells #[.int .i64 v.k, .int .i64 v.n, .int .i64 v.z, .slice v.X v.m v.c] 39) = W0) := hW0.symm
  have b2 : W0.cell? ⟨w.heap.size, 2, none⟩ = some (.int .i64 v.z) := B0.out.box.cell 2
  obtain ⟨val, s', hs'⟩ : ∃ val s', stU s v.z = (val, s') := ⟨_, _, rfl⟩
  rw [hs']
  have HST := Lib.hid hs'
  clear hW0 hr hx ap hok hs' hk
  go_enter Try.func18, Try.ntmps18
  go_wp2_with fail
  rw [HW0.out]
  refine wp_region_held_drew (S := (fun w' => w'.cell? ⟨w.heap.size, 2, none⟩ = some (.int .i64 v.z))) (by kernel_rfl) (by exact b2) (fun hHeld => ?_)
  refine wpAnyH_take (i := 0) (oi := { dst := some 11, op := Op.move (Operand.tmp 0), type := 24, pos := _, after := #[], guard := none }) (v := _) rfl (by kernel_rfl) (by kernel_rfl) (by kernel_rfl) (fun _ _ _ h => h) (Or.inl ⟨by rfl, by (intro wS hSw; (try dsimp only at hSw); go_simp; try with_reducible rfl)⟩) (by assumption) ?_
  (try simp only [Act.put, List.setIfInBounds_toArray, List.set_cons_zero, List.set_cons_succ])
  refine wpAnyH_take (i := 1) (oi := { dst := some 12, op := Op.fieldAddr 39 (Operand.tmp 5) 2, type := 0, pos := _, after := #[], guard := none }) (v := _) rfl (by kernel_rfl) (by kernel_rfl) (by kernel_rfl) (fun _ _ _ h => h) (Or.inl ⟨by rfl, by (intro wS hSw; (try dsimp only at hSw); go_simp; try with_reducible rfl)⟩) (by assumption) ?_
  (try simp only [Act.put, List.setIfInBounds_toArray, List.set_cons_zero, List.set_cons_succ])
  refine wpAnyH_take (i := 2) (oi := { dst := some 13, op := Op.load 3 (Operand.tmp 12), type := 3, pos := _, after := #[{ on := 1, ground := Ground.data }], guard := none }) (v := _) rfl (by kernel_rfl) (by kernel_rfl) (by kernel_rfl) (fun _ _ _ h => h) (Or.inl ⟨by rfl, by (intro wS hSw; (try dsimp only at hSw); go_simp; try with_reducible rfl)⟩) (by assumption) ?_
  (try simp only [Act.put, List.setIfInBounds_toArray, List.set_cons_zero, List.set_cons_succ])
  refine wpAnyH_take (i := 4) (oi := { dst := some 15, op := Op.move (Operand.tmp 1), type := 40, pos := _, after := #[], guard := none }) (v := _) rfl (by kernel_rfl) (by kernel_rfl) (by kernel_rfl) (fun _ _ _ h => h) (Or.inl ⟨by rfl, by (intro wS hSw; (try dsimp only at hSw); go_simp; try with_reducible rfl)⟩) (by assumption) ?_
  (try simp only [Act.put, List.setIfInBounds_toArray, List.set_cons_zero, List.set_cons_succ])
  refine wpAnyH_take (i := 5) (oi := { dst := some 16, op := Op.fieldAddr 39 (Operand.tmp 5) 2, type := 0, pos := _, after := #[], guard := none }) (v := _) rfl (by kernel_rfl) (by kernel_rfl) (by kernel_rfl) (fun _ _ _ h => h) (Or.inl ⟨by rfl, by (intro wS hSw; (try dsimp only at hSw); go_simp; try with_reducible rfl)⟩) (by assumption) ?_
  (try simp only [Act.put, List.setIfInBounds_toArray, List.set_cons_zero, List.set_cons_succ])
  refine wpAnyH_take (i := 6) (oi := { dst := some 17, op := Op.load 3 (Operand.tmp 16), type := 3, pos := _, after := #[{ on := 5, ground := Ground.data }], guard := none }) (v := _) rfl (by kernel_rfl) (by kernel_rfl) (by kernel_rfl) (fun _ _ _ h => h) (Or.inl ⟨by rfl, by (intro wS hSw; (try dsimp only at hSw); go_simp; try with_reducible rfl)⟩) (by assumption) ?_
  (try simp only [Act.put, List.setIfInBounds_toArray, List.set_cons_zero, List.set_cons_succ])
  refine wpAnyH_ready (rs := [3]) (by kernel_rfl) (by simp) ?_
  refine AllReadyH.cons (o := { dst := some 14, op := Op.call { callee := Callee.value (Operand.func 22), args := #[Operand.tmp 11, Operand.tmp 13], argTypes := #[24, 3] }, type := 46, pos := _, after := #[{ on := 0, ground := Ground.data }, { on := 2, ground := Ground.data }], guard := none }) rfl (fun K hK => ?_) AllReadyH.nil
  go_simp
  refine (ruint_s _ g X s v.z HOK.out (by exact B0.out.undrew.o)).mono ?_
  rw [HST.out]
  rintro e w1 ⟨X', rfl, hr, hk, hx⟩
  have B1 := Lib.hid (B0.out.first AP.out hr hk.undrew hx)
  have d1 : w1.cell? ⟨w.heap.size, 2, none⟩ = some (.int .i64 v.z) := B1.out.box.cell 2
  clear hr hk hx
  refine hK.out _ _ (by exact d1) (fun hHeld => ?_)
  clear hK K
  (try simp only [Act.put, List.setIfInBounds_toArray, List.set_cons_zero, List.set_cons_succ])
  refine wpAnyH_ready (rs := [7]) (by kernel_rfl) (by simp) ?_
  refine AllReadyH.cons (o := { dst := some 18, op := Op.call { callee := Callee.value (Operand.func 33), args := #[Operand.tmp 15, Operand.tmp 17], argTypes := #[40, 3] }, type := 46, pos := _, after := #[{ on := 4, ground := Ground.data }, { on := 6, ground := Ground.data }, { on := 3, ground := Ground.chain }], guard := none }) rfl (fun K hK => ?_) AllReadyH.nil
  go_simp
  refine (rruint_x _ g2 X2 s v.z HOK.out (by exact B1.out.x)).mono ?_
  rw [HST.out]
  rintro e w2 ⟨X2', rfl, hr, hk, hx⟩
  have B2 := Lib.hid (B1.out.second AP.out hr hk hx)
  have d2 : w2.cell? ⟨w.heap.size, 2, none⟩ = some (.int .i64 v.z) := B2.out.box.cell 2
  clear hr hk hx
  refine hK.out _ _ (by exact d2) (fun hHeld => ?_)
  clear hK K
  (try simp only [Act.put, List.setIfInBounds_toArray, List.set_cons_zero, List.set_cons_succ])
  refine wpAnyH_take (i := 8) (oi := { dst := some 19, op := Op.binOp BinOp.eql 46 (Operand.tmp 14) (Operand.tmp 18) 46, type := 4, pos := _, after := #[{ on := 3, ground := Ground.data }, { on := 7, ground := Ground.data }], guard := none }) (v := _) rfl (by kernel_rfl) (by kernel_rfl) (by kernel_rfl) (fun _ _ _ h => h) (Or.inl ⟨by rfl, by (intro wS hSw; (try dsimp only at hSw); go_simp; try with_reducible rfl)⟩) (by assumption) ?_
  (try simp only [Act.put, List.setIfInBounds_toArray, List.set_cons_zero, List.set_cons_succ])
  refine wpAnyH_take (i := 9) (oi := { dst := some 6, op := Op.assign (Operand.tmp 19), type := 4, pos := _, after := #[{ on := 8, ground := Ground.data }, { on := 7, ground := Ground.chain }, { on := 0, ground := Ground.phase }, { on := 1, ground := Ground.phase }, { on := 2, ground := Ground.phase }, { on := 3, ground := Ground.phase }, { on := 4, ground := Ground.phase }, { on := 5, ground := Ground.phase }, { on := 6, ground := Ground.phase }, { on := 7, ground := Ground.phase }, { on := 8, ground := Ground.phase }], guard := none }) (v := _) rfl (by kernel_rfl) (by kernel_rfl) (by kernel_rfl) (fun _ _ _ h => h) (Or.inl ⟨by rfl, by (intro wS hSw; (try dsimp only at hSw); go_simp; try with_reducible rfl)⟩) (by assumption) ?_
  (try simp only [Act.put, List.setIfInBounds_toArray, List.set_cons_zero, List.set_cons_succ])
  refine wpAnyH_done (by kernel_rfl) ?_ _
  go_wp2_with fail
  go_ret
  exact B2.out.post
set_option maxRecDepth 10000 in
set_option maxHeartbeats 2000000 in
theorem read_3 (w : World) (g g2 : Nat) (X X2 : Option Addr) (s : RS) (v : Vl) (hk : v.k = 3) (hok : RSok s) (ap : RApart w g g2 X X2) (hr : RO w g X s) (hx : RX w g2 X2 s) :
    Calls Try.prog 18 #[bptr g, bptr g2, vagg v] w (ReadPost w g g2 X X2 (stC s v.z).2) := by
  have AP := Lib.hid ap
  have HOK := Lib.hid hok
  have B0 := Lib.hid (read_box v hr hx)
  have q0 : (v.k == 0) = false := beq_false_of_ne (by omega)
  have q2 : (v.k == 2) = false := beq_false_of_ne (by omega)
  have q3 : (v.k == 3) = true := beq_iff_eq.2 hk
  obtain ⟨W0, hW0⟩ : ∃ W0, W0 = w.alloc (.cells (vcells v) 39) := ⟨_, rfl⟩
  rw [← hW0] at B0
  have HW0 : Hid (w.alloc (.cells #[.int .i64 v.k, .int .i64 v.n, .int .i64 v.z, .slice v.X v.m v.c] 39) = W0) := hW0.symm
  have b2 : W0.cell? ⟨w.heap.size, 2, none⟩ = some (.int .i64 v.z) := B0.out.box.cell 2
  obtain ⟨val, s', hs'⟩ : ∃ val s', stC s v.z = (val, s') := ⟨_, _, rfl⟩
  rw [hs']
  have HST := Lib.hid hs'
  clear hW0 hr hx ap hok hs' hk
  go_enter Try.func18, Try.ntmps18
  go_wp2_with fail
  rw [HW0.out]
  refine wp_region_held_drew (S := (fun w' => w'.cell? ⟨w.heap.size, 2, none⟩ = some (.int .i64 v.z))) (by kernel_rfl) (by exact b2) (fun hHeld => ?_)
  refine wpAnyH_take (i := 0) (oi := { dst := some 35, op := Op.move (Operand.tmp 0), type := 24, pos := _, after := #[], guard := none }) (v := _) rfl (by kernel_rfl) (by kernel_rfl) (by kernel_rfl) (fun _ _ _ h => h) (Or.inl ⟨by rfl, by (intro wS hSw; (try dsimp only at hSw); go_simp; try with_reducible rfl)⟩) (by assumption) ?_
  (try simp only [Act.put, List.setIfInBounds_toArray, List.set_cons_zero, List.set_cons_succ])
  refine wpAnyH_take (i := 1) (oi := { dst := some 36, op := Op.fieldAddr 39 (Operand.tmp 5) 2, type := 0, pos := _, after := #[], guard := none }) (v := _) rfl (by kernel_rfl) (by kernel_rfl) (by kernel_rfl) (fun _ _ _ h => h) (Or.inl ⟨by rfl, by (intro wS hSw; (try dsimp only at hSw); go_simp; try with_reducible rfl)⟩) (by assumption) ?_
  (try simp only [Act.put, List.setIfInBounds_toArray, List.set_cons_zero, List.set_cons_succ])
  refine wpAnyH_take (i := 2) (oi := { dst := some 37, op := Op.load 3 (Operand.tmp 36), type := 3, pos := _, after := #[{ on := 1, ground := Ground.data }], guard := none }) (v := _) rfl (by kernel_rfl) (by kernel_rfl) (by kernel_rfl) (fun _ _ _ h => h) (Or.inl ⟨by rfl, by (intro wS hSw; (try dsimp only at hSw); go_simp; try with_reducible rfl)⟩) (by assumption) ?_
  (try simp only [Act.put, List.setIfInBounds_toArray, List.set_cons_zero, List.set_cons_succ])
  refine wpAnyH_take (i := 4) (oi := { dst := some 39, op := Op.move (Operand.tmp 1), type := 40, pos := _, after := #[], guard := none }) (v := _) rfl (by kernel_rfl) (by kernel_rfl) (by kernel_rfl) (fun _ _ _ h => h) (Or.inl ⟨by rfl, by (intro wS hSw; (try dsimp only at hSw); go_simp; try with_reducible rfl)⟩) (by assumption) ?_
  (try simp only [Act.put, List.setIfInBounds_toArray, List.set_cons_zero, List.set_cons_succ])
  refine wpAnyH_take (i := 5) (oi := { dst := some 40, op := Op.fieldAddr 39 (Operand.tmp 5) 2, type := 0, pos := _, after := #[], guard := none }) (v := _) rfl (by kernel_rfl) (by kernel_rfl) (by kernel_rfl) (fun _ _ _ h => h) (Or.inl ⟨by rfl, by (intro wS hSw; (try dsimp only at hSw); go_simp; try with_reducible rfl)⟩) (by assumption) ?_
  (try simp only [Act.put, List.setIfInBounds_toArray, List.set_cons_zero, List.set_cons_succ])
  refine wpAnyH_take (i := 6) (oi := { dst := some 41, op := Op.load 3 (Operand.tmp 40), type := 3, pos := _, after := #[{ on := 5, ground := Ground.data }], guard := none }) (v := _) rfl (by kernel_rfl) (by kernel_rfl) (by kernel_rfl) (fun _ _ _ h => h) (Or.inl ⟨by rfl, by (intro wS hSw; (try dsimp only at hSw); go_simp; try with_reducible rfl)⟩) (by assumption) ?_
  (try simp only [Act.put, List.setIfInBounds_toArray, List.set_cons_zero, List.set_cons_succ])
  refine wpAnyH_ready (rs := [3]) (by kernel_rfl) (by simp) ?_
  refine AllReadyH.cons (o := { dst := some 38, op := Op.call { callee := Callee.value (Operand.func 35), args := #[Operand.tmp 35, Operand.tmp 37], argTypes := #[24, 3] }, type := 3, pos := _, after := #[{ on := 0, ground := Ground.data }, { on := 2, ground := Ground.data }], guard := none }) rfl (fun K hK => ?_) AllReadyH.nil
  go_simp
  refine (rcount_s _ g X s v.z HOK.out (by exact B0.out.undrew.o)).mono ?_
  rw [HST.out]
  rintro e w1 ⟨X', rfl, hr, hk, hx⟩
  have B1 := Lib.hid (B0.out.first AP.out hr hk.undrew hx)
  have d1 : w1.cell? ⟨w.heap.size, 2, none⟩ = some (.int .i64 v.z) := B1.out.box.cell 2
  clear hr hk hx
  refine hK.out _ _ (by exact d1) (fun hHeld => ?_)
  clear hK K
  (try simp only [Act.put, List.setIfInBounds_toArray, List.set_cons_zero, List.set_cons_succ])
  refine wpAnyH_ready (rs := [7]) (by kernel_rfl) (by simp) ?_
  refine AllReadyH.cons (o := { dst := some 42, op := Op.call { callee := Callee.value (Operand.func 36), args := #[Operand.tmp 39, Operand.tmp 41], argTypes := #[40, 3] }, type := 3, pos := _, after := #[{ on := 4, ground := Ground.data }, { on := 6, ground := Ground.data }, { on := 3, ground := Ground.chain }], guard := none }) rfl (fun K hK => ?_) AllReadyH.nil
  go_simp
  refine (rrcount_x _ g2 X2 s v.z HOK.out (by exact B1.out.x)).mono ?_
  rw [HST.out]
  rintro e w2 ⟨X2', rfl, hr, hk, hx⟩
  have B2 := Lib.hid (B1.out.second AP.out hr hk hx)
  have d2 : w2.cell? ⟨w.heap.size, 2, none⟩ = some (.int .i64 v.z) := B2.out.box.cell 2
  clear hr hk hx
  refine hK.out _ _ (by exact d2) (fun hHeld => ?_)
  clear hK K
  (try simp only [Act.put, List.setIfInBounds_toArray, List.set_cons_zero, List.set_cons_succ])
  refine wpAnyH_take (i := 8) (oi := { dst := some 43, op := Op.binOp BinOp.eql 3 (Operand.tmp 38) (Operand.tmp 42) 3, type := 4, pos := _, after := #[{ on := 3, ground := Ground.data }, { on := 7, ground := Ground.data }], guard := none }) (v := _) rfl (by kernel_rfl) (by kernel_rfl) (by kernel_rfl) (fun _ _ _ h => h) (Or.inl ⟨by rfl, by (intro wS hSw; (try dsimp only at hSw); go_simp; try with_reducible rfl)⟩) (by assumption) ?_
  (try simp only [Act.put, List.setIfInBounds_toArray, List.set_cons_zero, List.set_cons_succ])
  refine wpAnyH_take (i := 9) (oi := { dst := some 6, op := Op.assign (Operand.tmp 43), type := 4, pos := _, after := #[{ on := 8, ground := Ground.data }, { on := 7, ground := Ground.chain }, { on := 0, ground := Ground.phase }, { on := 1, ground := Ground.phase }, { on := 2, ground := Ground.phase }, { on := 3, ground := Ground.phase }, { on := 4, ground := Ground.phase }, { on := 5, ground := Ground.phase }, { on := 6, ground := Ground.phase }, { on := 7, ground := Ground.phase }, { on := 8, ground := Ground.phase }], guard := none }) (v := _) rfl (by kernel_rfl) (by kernel_rfl) (by kernel_rfl) (fun _ _ _ h => h) (Or.inl ⟨by rfl, by (intro wS hSw; (try dsimp only at hSw); go_simp; try with_reducible rfl)⟩) (by assumption) ?_
  (try simp only [Act.put, List.setIfInBounds_toArray, List.set_cons_zero, List.set_cons_succ])
  refine wpAnyH_done (by kernel_rfl) ?_ _
  go_wp2_with fail
  go_ret
  exact B2.out.post
set_option maxRecDepth 10000 in
set_option maxHeartbeats 2000000 in
theorem read_1 (w : World) (g g2 : Nat) (X X2 : Option Addr) (s : RS) (v : Vl) (hk0 : v.k ≠ 0) (hk2 : v.k ≠ 2) (hk3 : v.k ≠ 3) (hok : RSok s) (ap : RApart w g g2 X X2) (hr : RO w g X s) (hx : RX w g2 X2 s) :
    Calls Try.prog 18 #[bptr g, bptr g2, vagg v] w (ReadPost w g g2 X X2 (stI s).2) := by
  have AP := Lib.hid ap
  have HOK := Lib.hid hok
  have B0 := Lib.hid (read_box v hr hx)
  have q0 : (v.k == 0) = false := beq_false_of_ne hk0
  have q2 : (v.k == 2) = false := beq_false_of_ne hk2
  have q3 : (v.k == 3) = false := beq_false_of_ne hk3
  obtain ⟨W0, hW0⟩ : ∃ W0, W0 = w.alloc (.cells (vcells v) 39) := ⟨_, rfl⟩
  rw [← hW0] at B0
  have HW0 : Hid (w.alloc (.cells #[.int .i64 v.k, .int .i64 v.n, .int .i64 v.z, .slice v.X v.m v.c] 39) = W0) := hW0.symm
  have b2 : W0.cell? ⟨w.heap.size, 2, none⟩ = some (.int .i64 v.z) := B0.out.box.cell 2
  obtain ⟨val, s', hs'⟩ : ∃ val s', stI s = (val, s') := ⟨_, _, rfl⟩
  rw [hs']
  have HST := Lib.hid hs'
  clear hW0 hr hx ap hok hs' hk0 hk2 hk3
  go_enter Try.func18, Try.ntmps18
  go_wp2_with fail
  rw [HW0.out]
  go_wp2_with fail
  refine (rint_s _ g X s HOK.out (by exact B0.out.o)).mono ?_
  rw [HST.out]
  rintro e w1 ⟨X', rfl, hr, hk, hx⟩
  have B1 := Lib.hid (B0.out.first AP.out hr hk hx)
  clear hr hk hx
  go_wp2_with fail
  refine (rrint_x _ g2 X2 s HOK.out (by exact B1.out.x)).mono ?_
  rw [HST.out]
  rintro e w2 ⟨X2', rfl, hr, hk, hx⟩
  have B2 := Lib.hid (B1.out.second AP.out hr hk hx)
  clear hr hk hx
  go_wp2_with fail
  go_ret
  exact B2.out.post
set_option maxRecDepth 10000 in
set_option maxHeartbeats 2000000 in
theorem read_2 (w : World) (g g2 : Nat) (X X2 : Option Addr) (s : RS) (v : Vl) (hk : v.k = 2) (hok : RSok s) (ap : RApart w g g2 X X2) (hr : RO w g X s) (hx : RX w g2 X2 s) :
    Calls Try.prog 18 #[bptr g, bptr g2, vagg v] w (ReadPost w g g2 X X2 (stB s v.z).2) := by
  have AP := Lib.hid ap
  have HOK := Lib.hid hok
  have B0 := Lib.hid (read_box v hr hx)
  have q0 : (v.k == 0) = false := beq_false_of_ne (by omega)
  have q2 : (v.k == 2) = true := beq_iff_eq.2 hk
  obtain ⟨W0, hW0⟩ : ∃ W0, W0 = w.alloc (.cells (vcells v) 39) := ⟨_, rfl⟩
  rw [← hW0] at B0
  have HW0 : Hid (w.alloc (.cells #[.int .i64 v.k, .int .i64 v.n, .int .i64 v.z, .slice v.X v.m v.c] 39) = W0) := hW0.symm
  have b2 : W0.cell? ⟨w.heap.size, 2, none⟩ = some (.int .i64 v.z) := B0.out.box.cell 2
  obtain ⟨val, s', hs'⟩ : ∃ val s', stB s v.z = (val, s') := ⟨_, _, rfl⟩
  rw [hs']
  have HST := Lib.hid hs'
  have hvl : val.length ≤ 100000000 := stB_len hok hs'
  obtain ⟨S1, hS1⟩ : ∃ S1, strOfNums val = S1 := ⟨_, rfl⟩
  have hsz1 : S1.size ≤ 100000000 := by rw [← hS1, strOfNums_size]; omega
  have HCV : Hid (∀ W A n1 c1, Vw W A n1 1 (octs val) → (convert 22 9 (.slice A n1 c1)).run Try.prog W = .ok (.string S1) W) := fun W A n1 c1 hs => by
    rw [← hS1]
    exact conv_str 22 9 5 Try.underlying22 Try.underlying5 Try.underlying9 _ _ _ _ hs
  clear hS1 hvl
  clear hW0 hr hx ap hok hs' hk
  go_enter Try.func18, Try.ntmps18
  go_wp2_with fail
  rw [HW0.out]
  refine wp_region_held_drew (S := (fun w' => w'.cell? ⟨w.heap.size, 2, none⟩ = some (.int .i64 v.z))) (by kernel_rfl) (by exact b2) (fun hHeld => ?_)
  refine wpAnyH_take (i := 0) (oi := { dst := some 22, op := Op.move (Operand.tmp 0), type := 24, pos := _, after := #[], guard := none }) (v := _) rfl (by kernel_rfl) (by kernel_rfl) (by kernel_rfl) (fun _ _ _ h => h) (Or.inl ⟨by rfl, by (intro wS hSw; (try dsimp only at hSw); go_simp; try with_reducible rfl)⟩) (by assumption) ?_
  (try simp only [Act.put, List.setIfInBounds_toArray, List.set_cons_zero, List.set_cons_succ])
  refine wpAnyH_take (i := 1) (oi := { dst := some 23, op := Op.fieldAddr 39 (Operand.tmp 5) 2, type := 0, pos := _, after := #[], guard := none }) (v := _) rfl (by kernel_rfl) (by kernel_rfl) (by kernel_rfl) (fun _ _ _ h => h) (Or.inl ⟨by rfl, by (intro wS hSw; (try dsimp only at hSw); go_simp; try with_reducible rfl)⟩) (by assumption) ?_
  (try simp only [Act.put, List.setIfInBounds_toArray, List.set_cons_zero, List.set_cons_succ])
  refine wpAnyH_take (i := 2) (oi := { dst := some 24, op := Op.load 3 (Operand.tmp 23), type := 3, pos := _, after := #[{ on := 1, ground := Ground.data }], guard := none }) (v := _) rfl (by kernel_rfl) (by kernel_rfl) (by kernel_rfl) (fun _ _ _ h => h) (Or.inl ⟨by rfl, by (intro wS hSw; (try dsimp only at hSw); go_simp; try with_reducible rfl)⟩) (by assumption) ?_
  (try simp only [Act.put, List.setIfInBounds_toArray, List.set_cons_zero, List.set_cons_succ])
  refine wpAnyH_take (i := 5) (oi := { dst := some 27, op := Op.move (Operand.tmp 1), type := 40, pos := _, after := #[], guard := none }) (v := _) rfl (by kernel_rfl) (by kernel_rfl) (by kernel_rfl) (fun _ _ _ h => h) (Or.inl ⟨by rfl, by (intro wS hSw; (try dsimp only at hSw); go_simp; try with_reducible rfl)⟩) (by assumption) ?_
  (try simp only [Act.put, List.setIfInBounds_toArray, List.set_cons_zero, List.set_cons_succ])
  refine wpAnyH_take (i := 6) (oi := { dst := some 28, op := Op.fieldAddr 39 (Operand.tmp 5) 2, type := 0, pos := _, after := #[], guard := none }) (v := _) rfl (by kernel_rfl) (by kernel_rfl) (by kernel_rfl) (fun _ _ _ h => h) (Or.inl ⟨by rfl, by (intro wS hSw; (try dsimp only at hSw); go_simp; try with_reducible rfl)⟩) (by assumption) ?_
  (try simp only [Act.put, List.setIfInBounds_toArray, List.set_cons_zero, List.set_cons_succ])
  refine wpAnyH_take (i := 7) (oi := { dst := some 29, op := Op.load 3 (Operand.tmp 28), type := 3, pos := _, after := #[{ on := 6, ground := Ground.data }], guard := none }) (v := _) rfl (by kernel_rfl) (by kernel_rfl) (by kernel_rfl) (fun _ _ _ h => h) (Or.inl ⟨by rfl, by (intro wS hSw; (try dsimp only at hSw); go_simp; try with_reducible rfl)⟩) (by assumption) ?_
  (try simp only [Act.put, List.setIfInBounds_toArray, List.set_cons_zero, List.set_cons_succ])
  refine wpAnyH_ready (rs := [3]) (by kernel_rfl) (by simp) ?_
  refine (AllReadyH.cons (o := { dst := some 25, op := Op.call { callee := Callee.value (Operand.func 23), args := #[Operand.tmp 22, Operand.tmp 24], argTypes := #[24, 3] }, type := 22, pos := _, after := #[{ on := 0, ground := Ground.data }, { on := 2, ground := Ground.data }], guard := none }) rfl (fun K hK => ?_) AllReadyH.nil)
  go_simp
  refine (rblob_s _ g X s v.z HOK.out (by exact B0.out.undrew.o)).mono ?_
  rw [HST.out]
  rintro e w1 ⟨X', A1, n1, c1, rfl, hv, hr, hk, hx, HNE⟩
  have B1 := Lib.hid (B0.out.first AP.out hr hk.undrew hx)
  have d1 : w1.cell? ⟨w.heap.size, 2, none⟩ = some (.int .i64 v.z) := B1.out.box.cell 2
  have HV1 : Hid (Vw w1 A1 n1 1 (octs val)) := hv
  have t1 := HCV.out w1 A1 n1 c1 hv
  have HA1 : Hid (∀ x, x ∈ blks A1 → x ≠ g2) := fun x hx h => by have h1 : W0.heap.size ≤ x := HNE x hx; have := AP.out.hg2; have := B0.out.box.lt; omega
  clear hr hk hx hv HNE
  refine hK.out _ _ (by exact d1) (fun hHeld => ?_)
  clear hK K
  (try simp only [Act.put, List.setIfInBounds_toArray, List.set_cons_zero, List.set_cons_succ])
  refine wpAnyH_ready (rs := [4, 8]) (by kernel_rfl) (by simp) ?_
  refine (AllReadyH.cons (o := { dst := some 26, op := Op.convert 22 9 (Operand.tmp 25), type := 9, pos := _, after := #[{ on := 3, ground := Ground.data }], guard := none }) rfl (fun K hK => ?_) (AllReadyH.cons (o := { dst := some 30, op := Op.call { callee := Callee.value (Operand.func 34), args := #[Operand.tmp 27, Operand.tmp 29], argTypes := #[40, 3] }, type := 22, pos := _, after := #[{ on := 5, ground := Ground.data }, { on := 7, ground := Ground.data }, { on := 3, ground := Ground.chain }], guard := none }) rfl (fun K hK => ?_) AllReadyH.nil))
  · go_simp
    refine hK.out _ _ (by first | exact d2 | exact d1) (fun hHeld => ?_)
    clear hK K
    (try simp only [Act.put, List.setIfInBounds_toArray, List.set_cons_zero, List.set_cons_succ])
    refine wpAnyH_ready (rs := [8]) (by kernel_rfl) (by simp) ?_
    refine (AllReadyH.cons (o := { dst := some 30, op := Op.call { callee := Callee.value (Operand.func 34), args := #[Operand.tmp 27, Operand.tmp 29], argTypes := #[40, 3] }, type := 22, pos := _, after := #[{ on := 5, ground := Ground.data }, { on := 7, ground := Ground.data }, { on := 3, ground := Ground.chain }], guard := none }) rfl (fun K hK => ?_) AllReadyH.nil)
    go_simp
    refine (rrblob_x _ g2 X2 s v.z HOK.out (by exact B1.out.x)).mono ?_
    rw [HST.out]
    rintro e w2 ⟨X2', A2, n2, c2, rfl, hv, hr, hk, hx, _⟩
    have B2 := Lib.hid (B1.out.second AP.out hr hk hx)
    have d2 : w2.cell? ⟨w.heap.size, 2, none⟩ = some (.int .i64 v.z) := B2.out.box.cell 2
    have t2 := HCV.out w2 A2 n2 c2 hv
    have t12 := HCV.out w2 A1 n1 c1 (HV1.out.keepS hk (by simpa using HA1.out))
    clear hr hk hx hv
    refine hK.out _ _ (by exact d2) (fun hHeld => ?_)
    clear hK K
    (try simp only [Act.put, List.setIfInBounds_toArray, List.set_cons_zero, List.set_cons_succ])
    refine wpAnyH_ready (rs := [9]) (by kernel_rfl) (by simp) ?_
    refine (AllReadyH.cons (o := { dst := some 31, op := Op.convert 22 9 (Operand.tmp 30), type := 9, pos := _, after := #[{ on := 8, ground := Ground.data }], guard := none }) rfl (fun K hK => ?_) AllReadyH.nil)
    go_simp
    refine hK.out _ _ (by exact d2) (fun hHeld => ?_)
    clear hK K
    (try simp only [Act.put, List.setIfInBounds_toArray, List.set_cons_zero, List.set_cons_succ])
    refine wpAnyH_take (i := 10) (oi := { dst := some 32, op := Op.binOp BinOp.eql 9 (Operand.tmp 26) (Operand.tmp 31) 9, type := 4, pos := _, after := #[{ on := 4, ground := Ground.data }, { on := 9, ground := Ground.data }], guard := none }) (v := _) rfl (by kernel_rfl) (by kernel_rfl) (by kernel_rfl) (fun _ _ _ h => h) (Or.inl ⟨by rfl, by (intro wS hSw; (try dsimp only at hSw); go_simp; try with_reducible rfl)⟩) (by assumption) ?_
    (try simp only [Act.put, List.setIfInBounds_toArray, List.set_cons_zero, List.set_cons_succ])
    refine wpAnyH_take (i := 11) (oi := { dst := some 6, op := Op.assign (Operand.tmp 32), type := 4, pos := _, after := #[{ on := 10, ground := Ground.data }, { on := 8, ground := Ground.chain }, { on := 0, ground := Ground.phase }, { on := 1, ground := Ground.phase }, { on := 2, ground := Ground.phase }, { on := 3, ground := Ground.phase }, { on := 4, ground := Ground.phase }, { on := 5, ground := Ground.phase }, { on := 6, ground := Ground.phase }, { on := 7, ground := Ground.phase }, { on := 8, ground := Ground.phase }, { on := 9, ground := Ground.phase }, { on := 10, ground := Ground.phase }], guard := none }) (v := _) rfl (by kernel_rfl) (by kernel_rfl) (by kernel_rfl) (fun _ _ _ h => h) (Or.inl ⟨by rfl, by (intro wS hSw; (try dsimp only at hSw); go_simp; try with_reducible rfl)⟩) (by assumption) ?_
    (try simp only [Act.put, List.setIfInBounds_toArray, List.set_cons_zero, List.set_cons_succ])
    refine wpAnyH_done (by kernel_rfl) ?_ _
    go_wp2_with fail
    all_goals go_ret
    all_goals exact B2.out.post
  · go_simp
    refine (rrblob_x _ g2 X2 s v.z HOK.out (by exact B1.out.x)).mono ?_
    rw [HST.out]
    rintro e w2 ⟨X2', A2, n2, c2, rfl, hv, hr, hk, hx, _⟩
    have B2 := Lib.hid (B1.out.second AP.out hr hk hx)
    have d2 : w2.cell? ⟨w.heap.size, 2, none⟩ = some (.int .i64 v.z) := B2.out.box.cell 2
    have t2 := HCV.out w2 A2 n2 c2 hv
    have t12 := HCV.out w2 A1 n1 c1 (HV1.out.keepS hk (by simpa using HA1.out))
    clear hr hk hx hv
    refine hK.out _ _ (by exact d2) (fun hHeld => ?_)
    clear hK K
    (try simp only [Act.put, List.setIfInBounds_toArray, List.set_cons_zero, List.set_cons_succ])
    refine wpAnyH_ready (rs := [4, 9]) (by kernel_rfl) (by simp) ?_
    refine (AllReadyH.cons (o := { dst := some 26, op := Op.convert 22 9 (Operand.tmp 25), type := 9, pos := _, after := #[{ on := 3, ground := Ground.data }], guard := none }) rfl (fun K hK => ?_) (AllReadyH.cons (o := { dst := some 31, op := Op.convert 22 9 (Operand.tmp 30), type := 9, pos := _, after := #[{ on := 8, ground := Ground.data }], guard := none }) rfl (fun K hK => ?_) AllReadyH.nil))
    · go_simp
      refine hK.out _ _ (by first | exact d2 | exact d1) (fun hHeld => ?_)
      clear hK K
      (try simp only [Act.put, List.setIfInBounds_toArray, List.set_cons_zero, List.set_cons_succ])
      refine wpAnyH_ready (rs := [9]) (by kernel_rfl) (by simp) ?_
      refine (AllReadyH.cons (o := { dst := some 31, op := Op.convert 22 9 (Operand.tmp 30), type := 9, pos := _, after := #[{ on := 8, ground := Ground.data }], guard := none }) rfl (fun K hK => ?_) AllReadyH.nil)
      go_simp
      refine hK.out _ _ (by exact d2) (fun hHeld => ?_)
      clear hK K
      (try simp only [Act.put, List.setIfInBounds_toArray, List.set_cons_zero, List.set_cons_succ])
      refine wpAnyH_take (i := 10) (oi := { dst := some 32, op := Op.binOp BinOp.eql 9 (Operand.tmp 26) (Operand.tmp 31) 9, type := 4, pos := _, after := #[{ on := 4, ground := Ground.data }, { on := 9, ground := Ground.data }], guard := none }) (v := _) rfl (by kernel_rfl) (by kernel_rfl) (by kernel_rfl) (fun _ _ _ h => h) (Or.inl ⟨by rfl, by (intro wS hSw; (try dsimp only at hSw); go_simp; try with_reducible rfl)⟩) (by assumption) ?_
      (try simp only [Act.put, List.setIfInBounds_toArray, List.set_cons_zero, List.set_cons_succ])
      refine wpAnyH_take (i := 11) (oi := { dst := some 6, op := Op.assign (Operand.tmp 32), type := 4, pos := _, after := #[{ on := 10, ground := Ground.data }, { on := 8, ground := Ground.chain }, { on := 0, ground := Ground.phase }, { on := 1, ground := Ground.phase }, { on := 2, ground := Ground.phase }, { on := 3, ground := Ground.phase }, { on := 4, ground := Ground.phase }, { on := 5, ground := Ground.phase }, { on := 6, ground := Ground.phase }, { on := 7, ground := Ground.phase }, { on := 8, ground := Ground.phase }, { on := 9, ground := Ground.phase }, { on := 10, ground := Ground.phase }], guard := none }) (v := _) rfl (by kernel_rfl) (by kernel_rfl) (by kernel_rfl) (fun _ _ _ h => h) (Or.inl ⟨by rfl, by (intro wS hSw; (try dsimp only at hSw); go_simp; try with_reducible rfl)⟩) (by assumption) ?_
      (try simp only [Act.put, List.setIfInBounds_toArray, List.set_cons_zero, List.set_cons_succ])
      refine wpAnyH_done (by kernel_rfl) ?_ _
      go_wp2_with fail
      all_goals go_ret
      all_goals exact B2.out.post
    · go_simp
      refine hK.out _ _ (by exact d2) (fun hHeld => ?_)
      clear hK K
      (try simp only [Act.put, List.setIfInBounds_toArray, List.set_cons_zero, List.set_cons_succ])
      refine wpAnyH_ready (rs := [4]) (by kernel_rfl) (by simp) ?_
      refine (AllReadyH.cons (o := { dst := some 26, op := Op.convert 22 9 (Operand.tmp 25), type := 9, pos := _, after := #[{ on := 3, ground := Ground.data }], guard := none }) rfl (fun K hK => ?_) AllReadyH.nil)
      go_simp
      refine hK.out _ _ (by first | exact d2 | exact d1) (fun hHeld => ?_)
      clear hK K
      (try simp only [Act.put, List.setIfInBounds_toArray, List.set_cons_zero, List.set_cons_succ])
      refine wpAnyH_take (i := 10) (oi := { dst := some 32, op := Op.binOp BinOp.eql 9 (Operand.tmp 26) (Operand.tmp 31) 9, type := 4, pos := _, after := #[{ on := 4, ground := Ground.data }, { on := 9, ground := Ground.data }], guard := none }) (v := _) rfl (by kernel_rfl) (by kernel_rfl) (by kernel_rfl) (fun _ _ _ h => h) (Or.inl ⟨by rfl, by (intro wS hSw; (try dsimp only at hSw); go_simp; try with_reducible rfl)⟩) (by assumption) ?_
      (try simp only [Act.put, List.setIfInBounds_toArray, List.set_cons_zero, List.set_cons_succ])
      refine wpAnyH_take (i := 11) (oi := { dst := some 6, op := Op.assign (Operand.tmp 32), type := 4, pos := _, after := #[{ on := 10, ground := Ground.data }, { on := 8, ground := Ground.chain }, { on := 0, ground := Ground.phase }, { on := 1, ground := Ground.phase }, { on := 2, ground := Ground.phase }, { on := 3, ground := Ground.phase }, { on := 4, ground := Ground.phase }, { on := 5, ground := Ground.phase }, { on := 6, ground := Ground.phase }, { on := 7, ground := Ground.phase }, { on := 8, ground := Ground.phase }, { on := 9, ground := Ground.phase }, { on := 10, ground := Ground.phase }], guard := none }) (v := _) rfl (by kernel_rfl) (by kernel_rfl) (by kernel_rfl) (fun _ _ _ h => h) (Or.inl ⟨by rfl, by (intro wS hSw; (try dsimp only at hSw); go_simp; try with_reducible rfl)⟩) (by assumption) ?_
      (try simp only [Act.put, List.setIfInBounds_toArray, List.set_cons_zero, List.set_cons_succ])
      refine wpAnyH_done (by kernel_rfl) ?_ _
      go_wp2_with fail
      all_goals go_ret
      all_goals exact B2.out.post
def stR (s : RS) (v : Vl) : RS := if v.k = 0 then (stU s v.z).2 else if v.k = 2 then (stB s v.z).2 else if v.k = 3 then (stC s v.z).2 else (stI s).2
theorem stR_ok {s : RS} (v : Vl) (h : RSok s) : RSok (stR s v) := by
  unfold stR; split
  · exact stU_ok h
  · split
    · exact stB_ok h
    · split
      · exact stC_ok h
      · exact stI_ok h
theorem read_any (w : World) (g g2 : Nat) (X X2 : Option Addr) (s s' : RS) (v : Vl) (hs' : stR s v = s') (hok : RSok s) (ap : RApart w g g2 X X2) (hr : RO w g X s) (hx : RX w g2 X2 s) :
    Calls Try.prog 18 #[bptr g, bptr g2, vagg v] w (ReadPost w g g2 X X2 s') := by
  subst hs'
  unfold stR
  by_cases h0 : v.k = 0
  · rw [if_pos h0]; exact read_0 w g g2 X X2 s v h0 hok ap hr hx
  · rw [if_neg h0]
    by_cases h2 : v.k = 2
    · rw [if_pos h2]; exact read_2 w g g2 X X2 s v h2 hok ap hr hx
    · rw [if_neg h2]
      by_cases h3 : v.k = 3
      · rw [if_pos h3]; exact read_3 w g g2 X X2 s v h3 hok ap hr hx
      · rw [if_neg h3]; exact read_1 w g g2 X X2 s v h0 h2 h3 hok ap hr hx
end Go.Proofs.Ytalhojnkdcopeaa
