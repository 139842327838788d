/- The checkpoint: Encode, of one without entries and sides. -/
import Derived.Test.YtfkbcflgbjncdaaChD
namespace Go.Proofs.Ytfkbcflgbjncdaa
set_option linter.unusedVariables false
set_option linter.unusedSimpArgs false
open Go.RowKit
def fE (f : Fi) : List Int := be f.s 1 ++ be f.n 2
def headC (c : Ck) : List Int := vI c.boots ++ be c.mode 1 ++ vI c.time ++ vB (imageL c.led) ++ vB [0] ++ vI 0 ++ vI (c.done.length : Int)
def encC (c : Ck) : List Int := headC c ++ c.done.flatMap fE ++ vI c.next
theorem fE_len (L : List Fi) : (L.flatMap fE).length = 3 * L.length := by
  induction L with
  | nil => rfl
  | cons g L ih => simp only [List.flatMap_cons, fE, List.length_append, List.length_cons, be_length, ih]; omega
def EncPost (w : World) (c : Ck) (e : Ending) (w' : World) : Prop :=
  ∃ A m c', e = .returned (.tuple #[.slice A m c', .int .i64 0]) ∧ m = (encC c).length ∧ Sl w' 5 1 A m c' (octs (encC c)) ∧ Keep w.heap.size [] w w' ∧ ∀ x, x ∈ blks A → w.heap.size ≤ x
structure CkB (c : Ck) : Prop where
  b : 0 ≤ c.boots ∧ c.boots ≤ 2147483647
  m : 0 ≤ c.mode ∧ c.mode ≤ 4
  t : 0 ≤ c.time ∧ c.time ≤ 1099511627776
  n : 1 ≤ c.next ∧ c.next ≤ 65536
  f : ∀ f ∈ c.done, (0 ≤ f.s ∧ f.s ≤ 15) ∧ 0 ≤ f.n ∧ f.n ≤ 65535
theorem ckOk_bd {c : Ck} (h : ckOk c = true) : CkB c := by
  unfold ckOk at h
  simp only [Bool.and_eq_true, inB_iff] at h
  obtain ⟨h1, h2, h3, h4, h5⟩ := h
  refine ⟨h1, h2, h3, h4, fun f hf => ?_⟩
  obtain ⟨j, hj⟩ := List.getElem?_of_mem hf
  have hl : j < c.done.length := (List.getElem?_eq_some_iff.1 hj).1
  have h6 := List.all_eq_true.1 h5 j (List.mem_range.2 hl)
  unfold doneOne at h6
  rw [hj] at h6
  simp only [Bool.and_eq_true] at h6
  have h7 := h6.1
  unfold idB at h7
  simp only [Bool.and_eq_true, inB_iff] at h7
  exact h7
theorem headC_len {c : Ck} (h : CkB c) (h16 : c.led.length = 16) (hd : c.done.length ≤ 256) : (headC c).length ≤ 300 := by
  have h1 := vI_len (n := c.boots) (by have := h.b; omega) (by have := h.b; omega)
  have h2 := vI_len (n := c.time) (by have := h.t; omega) (by have := h.t; omega)
  have h3 := vI_len (n := ((imageL c.led).length : Int)) (by omega) (by rw [imageL_len, h16]; decide)
  have h4 := vI_len (n := (([0] : List Int).length : Int)) (by decide) (by decide)
  have h5 := vI_len (n := 0) (by decide) (by decide)
  have h6 := vI_len (n := (c.done.length : Int)) (by omega) (by omega)
  have h7 := imageL_len c.led
  rw [h16] at h7
  simp only [List.length_cons, List.length_nil] at h4
  unfold headC vB
  simp only [List.length_append, be_length, List.length_cons, List.length_nil]
  omega
theorem WS.new {w W : World} {g : Nat} {A : Option Addr} {L : List Int} {t : TypeId} {cs : Array Value} (h : WS w W g A L t cs) {x : Nat} (hx : W.heap.size ≤ x) : x ∉ g :: blks A := by
  intro hc
  rcases List.mem_cons.1 hc with rfl | hc
  · have := h.wr.lt; omega
  · have := h.wr.blk _ hc; omega
theorem apart_next {W : World} {g x : Nat} {A A' : Option Addr} (h : x ∉ g :: blks A) (hx : x < W.heap.size) (hb : ∀ y, y ∈ blks A' → y ∈ blks A ∨ W.heap.size ≤ y) : x ∉ g :: blks A' := by
  intro hc
  rcases List.mem_cons.1 hc with rfl | hc
  · exact h (by simp)
  · rcases hb x hc with h' | h'
    · exact h (List.mem_cons_of_mem _ h')
    · omega
/-- a slice that lies apart from a writer -/
structure EV (W : World) (X : Option Addr) (n : Nat) (xs : List Value) (g : Nat) (A : Option Addr) : Prop where
  v : Vw W X n 1 xs
  a : ∀ x, x ∈ blks X → x < W.heap.size ∧ x ∉ g :: blks A
theorem EV.drew {W : World} {X : Option Addr} {n : Nat} {xs : List Value} {g : Nat} {A : Option Addr} (h : EV W X n xs g A) : EV W.drew X n xs g A := ⟨h.v, h.a⟩
theorem EV.next {W W' : World} {X : Option Addr} {n : Nat} {xs : List Value} {g : Nat} {A A' : Option Addr} (h : EV W X n xs g A) (hk : Keep W.heap.size (g :: blks A) W W') (hb : ∀ x, x ∈ blks A' → x ∈ blks A ∨ W.heap.size ≤ x) : EV W' X n xs g A' := by
  refine ⟨h.v.keepS hk (fun x hx => (h.a x hx).2), fun x hx => ⟨Nat.lt_of_lt_of_le (h.a x hx).1 hk.size, fun hc => ?_⟩⟩
  obtain ⟨h1, h2⟩ := h.a x hx
  rcases List.mem_cons.1 hc with rfl | hc
  · exact h2 (by simp)
  · rcases hb x hc with h' | h'
    · exact h2 (List.mem_cons_of_mem _ h')
    · omega
set_option maxRecDepth 100000 in
set_option maxHeartbeats 4000000 in
theorem cenc_no (w : World) (c : Ck) (l : CL) (hp : CIn w c l) (hv : ckOk c = false) : Calls Try.prog 56 #[.agg (ccs c l)] w fun e w' => e = .returned (.tuple #[.slice none 0 0, .int .i64 1]) ∧ Keep w.heap.size [] w w' := by
  have k1 : Keep w.heap.size [] w (w.alloc (.cells (ccs c l) TC)) := (Keep.refl _ _ w).alloc (Nat.le_refl _) _
  have hb := Blk.new w TC (ccs c l)
  obtain ⟨W0, hW0⟩ : ∃ W0, W0 = w.alloc (.cells (ccs c l) TC) := ⟨_, rfl⟩
  rw [← hW0] at hb k1
  have K1 := Lib.hid k1
  have B0 := Lib.hid hb
  have P0 := Lib.hid (hp.keep0 k1)
  have HV := Lib.hid hv
  clear k1 hp hv hb
  go_enter Try.func56, Try.ntmps56
  go_upto_region 1 with fail
  change Code.wp _ _ _ _ (w.alloc (.cells (ccs c l) TC))
  rw [← hW0]
  clear hW0
  have c0 : W0.cell? ⟨w.heap.size, 0, none⟩ = some (.int .i64 c.boots) := B0.out.cell 0
  have c1 : W0.cell? ⟨w.heap.size, 1, none⟩ = some (.int .i64 c.mode) := B0.out.cell 1
  have c2 : W0.cell? ⟨w.heap.size, 2, none⟩ = some (.int .i64 c.time) := B0.out.cell 2
  have c3 : W0.cell? ⟨w.heap.size, 3, none⟩ = some (.slice l.X l.m l.c) := B0.out.cell 3
  have c4 : W0.cell? ⟨w.heap.size, 4, none⟩ = some (.slice none 0 0) := B0.out.cell 4
  have c5 : W0.cell? ⟨w.heap.size, 5, none⟩ = some (.slice none 0 0) := B0.out.cell 5
  have c6 : W0.cell? ⟨w.heap.size, 6, none⟩ = some (.slice l.Y l.n l.d) := B0.out.cell 6
  have c7 : W0.cell? ⟨w.heap.size, 7, none⟩ = some (.int .i64 c.next) := B0.out.cell 7
  go_wp2_with fail
  refine (cvalid_b _ c l false P0.out HV.out).mono ?_
  rintro e w2 ⟨rfl, hk⟩
  have K2 := Lib.hid (K1.out.chain0 (Nat.le_refl _) hk)
  clear hk
  go_wp2_with fail
  go_ret2
  exact ⟨rfl, K2.out⟩
set_option maxRecDepth 100000 in
set_option maxHeartbeats 8000000 in
theorem cenc_yes (w : World) (c : Ck) (l : CL) (hp : CIn w c l) (hv : ckOk c = true) : Calls Try.prog 56 #[.agg (ccs c l)] w (EncPost w c) := by
  obtain ⟨X, m, cc, Y, n, d⟩ := l
  have k1 : Keep w.heap.size [] w (w.alloc (.cells (ccs c ⟨X, m, cc, Y, n, d⟩) TC)) := (Keep.refl _ _ w).alloc (Nat.le_refl _) _
  have hb := Blk.new w TC (ccs c ⟨X, m, cc, Y, n, d⟩)
  obtain ⟨W0, hW0⟩ : ∃ W0, W0 = w.alloc (.cells (ccs c ⟨X, m, cc, Y, n, d⟩) TC) := ⟨_, rfl⟩
  rw [← hW0] at hb k1
  have K0 := Lib.hid k1
  have B0 := Lib.hid hb
  have PV := Lib.hid hp
  have PO : Hid (0 < m → ∀ x, x ∈ blks X → x < w.heap.size) := Lib.hid hp.vl.old
  have P0 := Lib.hid (hp.keep0 k1)
  have HV := Lib.hid hv
  have CB := Lib.hid (ckOk_bd hv)
  have hm160 : Hid (m = 160) := Lib.hid hp.m160
  have HN : Hid (n = c.done.length) := Lib.hid hp.dlen
  have hn256 : n ≤ 256 := hp.dn
  have hnd : Hid (n ≤ d ∧ d ≤ maxLen) := Lib.hid hp.cd
  have hl16 := Lib.hid hp.l16
  clear k1 hb hp hv
  have hI : ∀ z : Int, -9223372036854775808 ≤ z → z ≤ 9223372036854775807 → (vI z).length ≤ 10 := fun z => vI_len
  have HIL := Lib.hid hI
  obtain ⟨⟨b0, b1⟩, ⟨m0, m1⟩, ⟨t0, t1⟩, ⟨x0, x1⟩, hfs⟩ := CB.out
  have HFS := Lib.hid hfs
  have lb := vI_len (n := c.boots) (by omega) (by omega)
  have lt := vI_len (n := c.time) (by omega) (by omega)
  have l0 := vI_len (n := 0) (by decide) (by decide)
  have lv0 : (vB [0]).length ≤ 11 := by have := vI_len (n := (([0] : List Int).length : Int)) (by decide) (by decide); unfold vB; simp only [List.length_append, List.length_cons, List.length_nil]; simp only [List.length_cons, List.length_nil] at this; omega
  have lvi : (vB (imageL c.led)).length ≤ 170 := by
    have h7 := imageL_len c.led
    rw [hl16.out] at h7
    have := vI_len (n := ((imageL c.led).length : Int)) (by omega) (by omega)
    unfold vB; simp only [List.length_append]; omega
  have um := u64_in c.mode (by omega) (by omega)
  clear hI hfs
  go_enter Try.func56, Try.ntmps56
  go_upto_region 1 with fail
  change Code.wp _ _ _ _ (w.alloc (.cells (ccs c ⟨X, m, cc, Y, n, d⟩) TC))
  rw [← hW0]
  clear hW0
  have c0 : W0.cell? ⟨w.heap.size, 0, none⟩ = some (.int .i64 c.boots) := B0.out.cell 0
  have c1 : W0.cell? ⟨w.heap.size, 1, none⟩ = some (.int .i64 c.mode) := B0.out.cell 1
  have c2 : W0.cell? ⟨w.heap.size, 2, none⟩ = some (.int .i64 c.time) := B0.out.cell 2
  have c3 : W0.cell? ⟨w.heap.size, 3, none⟩ = some (.slice X m cc) := B0.out.cell 3
  have c4 : W0.cell? ⟨w.heap.size, 4, none⟩ = some (.slice none 0 0) := B0.out.cell 4
  have c5 : W0.cell? ⟨w.heap.size, 5, none⟩ = some (.slice none 0 0) := B0.out.cell 5
  have c6 : W0.cell? ⟨w.heap.size, 6, none⟩ = some (.slice Y n d) := B0.out.cell 6
  have c7 : W0.cell? ⟨w.heap.size, 7, none⟩ = some (.int .i64 c.next) := B0.out.cell 7
  go_wp2_with fail
  refine (cvalid_b _ c ⟨X, m, cc, Y, n, d⟩ true P0.out HV.out).mono ?_
  rintro e w1 ⟨rfl, hk⟩
  have K1 := Lib.hid (K0.out.chain0 (Nat.le_refl _) hk)
  have B1 := Lib.hid (B0.out.keepS hk (by simp))
  have y4 : w1.cell? ⟨w.heap.size, 4, none⟩ = some (.slice none 0 0) := B1.out.cell 4
  clear hk c0 c1 c2 c3 c4 c5 c6 c7
  go_wp2_with fail
  refine (senc_nil _).mono ?_
  rintro e w2 ⟨A3, n3, c3, rfl, hn3, hs3, hk2, hA3⟩
  have N3 := Lib.hid hn3
  have B2 := Lib.hid (B1.out.keepS hk2 (by simp))
  have K2 := Lib.hid (K1.out.chain0 (Nat.le_refl _) hk2)
  have HA3 : Hid (∀ x, x ∈ blks A3 → x < w2.heap.size) := Lib.hid (fun x hx => hs3.blk hx)
  have HS3 := Lib.hid hs3
  clear hn3 hs3 hk2 y4 hA3
  go_wp2_with fail
  refine (wnew_any _).mono ?_
  rintro e w4 ⟨g, rfl, hg, hw, hk⟩
  have W4 : Hid (WS w w4 g none [] TC (ccs c ⟨X, m, cc, Y, n, d⟩)) := ⟨K2.out.chain0 (Nat.le_refl _) hk, hw, Nat.lt_of_lt_of_le B2.out.lt hg, by simp [blks], B2.out.keepS hk (by simp)⟩
  have E4 : Hid (EV w4 A3 n3 (octs [0]) g none) := Lib.hid ⟨(HS3.out.keep0 hk).vw (by omega), fun x hx => ⟨Nat.lt_of_lt_of_le (HA3.out x hx) hk.size, by have := HA3.out x hx; simp [blks]; omega⟩⟩
  clear hg hw hk
  go_wp2_with fail
  have y4 : (fun w' => w'.cell? ⟨w.heap.size, 0, none⟩ = some (.int .i64 c.boots) ∧ w'.cell? ⟨w.heap.size, 1, none⟩ = some (.int .i64 c.mode) ∧ w'.cell? ⟨w.heap.size, 2, none⟩ = some (.int .i64 c.time) ∧ w'.cell? ⟨w.heap.size, 3, none⟩ = some (.slice X m cc) ∧ w'.cell? ⟨w.heap.size, 5, none⟩ = some (.slice none 0 0)) w4.drew := ⟨W4.out.box.cell 0, W4.out.box.cell 1, W4.out.box.cell 2, W4.out.box.cell 3, W4.out.box.cell 5⟩
  refine wp_region_held_drew (S := (fun w' => w'.cell? ⟨w.heap.size, 0, none⟩ = some (.int .i64 c.boots) ∧ w'.cell? ⟨w.heap.size, 1, none⟩ = some (.int .i64 c.mode) ∧ w'.cell? ⟨w.heap.size, 2, none⟩ = some (.int .i64 c.time) ∧ w'.cell? ⟨w.heap.size, 3, none⟩ = some (.slice X m cc) ∧ w'.cell? ⟨w.heap.size, 5, none⟩ = some (.slice none 0 0))) (by kernel_rfl) (by exact y4) (fun hHeld => ?_)
  refine wpAnyH_take (i := 0) (oi := { dst := some 24, op := Op.move (Operand.tmp 6), type := 117, pos := _, after := #[], guard := none }) (v := _) rfl (by kernel_rfl) (by kernel_rfl) (by kernel_rfl) (fun _ _ _ h => h) (Or.inl ⟨by rfl, by (intro wS hSw; (try dsimp only at hSw); go_simp; try with_reducible rfl)⟩) (by assumption) ?_
  (try simp only [Act.put, List.setIfInBounds_toArray, List.set_cons_zero, List.set_cons_succ])
  refine wpAnyH_take (i := 1) (oi := { dst := some 25, op := Op.fieldAddr 64 (Operand.tmp 1) 0, type := 0, pos := _, after := #[], guard := none }) (v := _) rfl (by kernel_rfl) (by kernel_rfl) (by kernel_rfl) (fun _ _ _ h => h) (Or.inl ⟨by rfl, by (intro wS hSw; (try dsimp only at hSw); go_simp; try with_reducible rfl)⟩) (by assumption) ?_
  (try simp only [Act.put, List.setIfInBounds_toArray, List.set_cons_zero, List.set_cons_succ])
  refine wpAnyH_take (i := 2) (oi := { dst := some 26, op := Op.load 3 (Operand.tmp 25), type := 3, pos := _, after := #[{ on := 1, ground := Ground.data }], guard := none }) (v := _) rfl (by kernel_rfl) (by kernel_rfl) (by kernel_rfl) (fun _ _ _ h => h) (Or.inl ⟨by rfl, by (intro wS hSw; (try dsimp only at hSw); go_simp; try with_reducible rfl)⟩) (by assumption) ?_
  (try simp only [Act.put, List.setIfInBounds_toArray, List.set_cons_zero, List.set_cons_succ])
  refine wpAnyH_take (i := 4) (oi := { dst := some 28, op := Op.fieldAddr 64 (Operand.tmp 1) 1, type := 0, pos := _, after := #[], guard := none }) (v := _) rfl (by kernel_rfl) (by kernel_rfl) (by kernel_rfl) (fun _ _ _ h => h) (Or.inl ⟨by rfl, by (intro wS hSw; (try dsimp only at hSw); go_simp; try with_reducible rfl)⟩) (by assumption) ?_
  (try simp only [Act.put, List.setIfInBounds_toArray, List.set_cons_zero, List.set_cons_succ])
  refine wpAnyH_take (i := 5) (oi := { dst := some 29, op := Op.load 3 (Operand.tmp 28), type := 3, pos := _, after := #[{ on := 4, ground := Ground.data }], guard := none }) (v := _) rfl (by kernel_rfl) (by kernel_rfl) (by kernel_rfl) (fun _ _ _ h => h) (Or.inl ⟨by rfl, by (intro wS hSw; (try dsimp only at hSw); go_simp; try with_reducible rfl)⟩) (by assumption) ?_
  (try simp only [Act.put, List.setIfInBounds_toArray, List.set_cons_zero, List.set_cons_succ])
  refine wpAnyH_take (i := 6) (oi := { dst := some 30, op := Op.convert 3 95 (Operand.tmp 29), type := 95, pos := _, after := #[{ on := 5, ground := Ground.data }], guard := none }) (v := _) rfl (by kernel_rfl) (by kernel_rfl) (by kernel_rfl) (fun _ _ _ h => h) (Or.inl ⟨by rfl, by (intro wS hSw; (try dsimp only at hSw); go_simp; try with_reducible rfl)⟩) (by assumption) ?_
  (try simp only [Act.put, List.setIfInBounds_toArray, List.set_cons_zero, List.set_cons_succ])
  refine wpAnyH_take (i := 8) (oi := { dst := some 32, op := Op.fieldAddr 64 (Operand.tmp 1) 2, type := 0, pos := _, after := #[], guard := none }) (v := _) rfl (by kernel_rfl) (by kernel_rfl) (by kernel_rfl) (fun _ _ _ h => h) (Or.inl ⟨by rfl, by (intro wS hSw; (try dsimp only at hSw); go_simp; try with_reducible rfl)⟩) (by assumption) ?_
  (try simp only [Act.put, List.setIfInBounds_toArray, List.set_cons_zero, List.set_cons_succ])
  refine wpAnyH_take (i := 9) (oi := { dst := some 33, op := Op.load 3 (Operand.tmp 32), type := 3, pos := _, after := #[{ on := 8, ground := Ground.data }], guard := none }) (v := _) rfl (by kernel_rfl) (by kernel_rfl) (by kernel_rfl) (fun _ _ _ h => h) (Or.inl ⟨by rfl, by (intro wS hSw; (try dsimp only at hSw); go_simp; try with_reducible rfl)⟩) (by assumption) ?_
  (try simp only [Act.put, List.setIfInBounds_toArray, List.set_cons_zero, List.set_cons_succ])
  refine wpAnyH_take (i := 11) (oi := { dst := some 35, op := Op.fieldAddr 64 (Operand.tmp 1) 3, type := 0, pos := _, after := #[], guard := none }) (v := _) rfl (by kernel_rfl) (by kernel_rfl) (by kernel_rfl) (fun _ _ _ h => h) (Or.inl ⟨by rfl, by (intro wS hSw; (try dsimp only at hSw); go_simp; try with_reducible rfl)⟩) (by assumption) ?_
  (try simp only [Act.put, List.setIfInBounds_toArray, List.set_cons_zero, List.set_cons_succ])
  refine wpAnyH_take (i := 12) (oi := { dst := some 36, op := Op.load 35 (Operand.tmp 35), type := 35, pos := _, after := #[{ on := 11, ground := Ground.data }], guard := none }) (v := _) rfl (by kernel_rfl) (by kernel_rfl) (by kernel_rfl) (fun _ _ _ h => h) (Or.inl ⟨by rfl, by (intro wS hSw; (try dsimp only at hSw); go_simp; try with_reducible rfl)⟩) (by assumption) ?_
  (try simp only [Act.put, List.setIfInBounds_toArray, List.set_cons_zero, List.set_cons_succ])
  refine wpAnyH_take (i := 14) (oi := { dst := some 38, op := Op.move (Operand.tmp 4), type := 35, pos := _, after := #[], guard := none }) (v := _) rfl (by kernel_rfl) (by kernel_rfl) (by kernel_rfl) (fun _ _ _ h => h) (Or.inl ⟨by rfl, by (intro wS hSw; (try dsimp only at hSw); go_simp; try with_reducible rfl)⟩) (by assumption) ?_
  (try simp only [Act.put, List.setIfInBounds_toArray, List.set_cons_zero, List.set_cons_succ])
  refine wpAnyH_take (i := 16) (oi := { dst := some 40, op := Op.fieldAddr 64 (Operand.tmp 1) 5, type := 0, pos := _, after := #[], guard := none }) (v := _) rfl (by kernel_rfl) (by kernel_rfl) (by kernel_rfl) (fun _ _ _ h => h) (Or.inl ⟨by rfl, by (intro wS hSw; (try dsimp only at hSw); go_simp; try with_reducible rfl)⟩) (by assumption) ?_
  (try simp only [Act.put, List.setIfInBounds_toArray, List.set_cons_zero, List.set_cons_succ])
  refine wpAnyH_take (i := 17) (oi := { dst := some 41, op := Op.load 32 (Operand.tmp 40), type := 32, pos := _, after := #[{ on := 16, ground := Ground.data }], guard := none }) (v := _) rfl (by kernel_rfl) (by kernel_rfl) (by kernel_rfl) (fun _ _ _ h => h) (Or.inl ⟨by rfl, by (intro wS hSw; (try dsimp only at hSw); go_simp; try with_reducible rfl)⟩) (by assumption) ?_
  (try simp only [Act.put, List.setIfInBounds_toArray, List.set_cons_zero, List.set_cons_succ])
  refine wpAnyH_take (i := 18) (oi := { dst := some 42, op := Op.call { callee := Callee.builtin Builtin.len, args := #[Operand.tmp 41], argTypes := #[32] }, type := 3, pos := _, after := #[{ on := 17, ground := Ground.data }], guard := none }) (v := _) rfl (by kernel_rfl) (by kernel_rfl) (by kernel_rfl) (fun _ _ _ h => h) (Or.inl ⟨by rfl, by (intro wS hSw; (try dsimp only at hSw); go_simp; try with_reducible rfl)⟩) (by assumption) ?_
  (try simp only [Act.put, List.setIfInBounds_toArray, List.set_cons_zero, List.set_cons_succ])
  refine wpAnyH_ready (rs := [3]) (by kernel_rfl) (by simp) ?_
  refine AllReadyH.cons (o := { dst := some 27, op := Op.call { callee := Callee.value (Operand.func 109), args := #[Operand.tmp 24, Operand.tmp 26], argTypes := #[117, 3] }, type := 117, pos := _, after := #[{ on := 0, ground := Ground.data }, { on := 2, ground := Ground.data }], guard := none }) rfl (fun K hK => ?_) AllReadyH.nil
  go_simp
  refine (wi_p W4.out.drew c.boots (by omega) (by omega) (by simp only [List.length_append, List.length_nil, be_length]; omega)).mono ?_
  rintro e w5 ⟨rfl, A5, hw, hk, hb⟩
  have W5 := Lib.hid hw
  have E5 := Lib.hid (E4.out.drew.next hk hb)
  have y5 := (⟨W5.out.box.cell 0, W5.out.box.cell 1, W5.out.box.cell 2, W5.out.box.cell 3, W5.out.box.cell 5⟩ : (fun w' => w'.cell? ⟨w.heap.size, 0, none⟩ = some (.int .i64 c.boots) ∧ w'.cell? ⟨w.heap.size, 1, none⟩ = some (.int .i64 c.mode) ∧ w'.cell? ⟨w.heap.size, 2, none⟩ = some (.int .i64 c.time) ∧ w'.cell? ⟨w.heap.size, 3, none⟩ = some (.slice X m cc) ∧ w'.cell? ⟨w.heap.size, 5, none⟩ = some (.slice none 0 0)) w5)
  clear hw hk hb
  refine hK.out _ _ (by exact y5) (fun hHeld => ?_)
  clear hK K
  (try simp only [Act.put, List.setIfInBounds_toArray, List.set_cons_zero, List.set_cons_succ])
  refine wpAnyH_ready (rs := [7]) (by kernel_rfl) (by simp) ?_
  refine AllReadyH.cons (o := { dst := some 31, op := Op.call { callee := Callee.value (Operand.func 50), args := #[Operand.tmp 27, Operand.tmp 30, Operand.const (Value.int IntKind.i64 1)], argTypes := #[117, 95, 3] }, type := 117, pos := _, after := #[{ on := 3, ground := Ground.data }, { on := 6, ground := Ground.data }, { on := 3, ground := Ground.chain }], guard := none }) rfl (fun K hK => ?_) AllReadyH.nil
  go_simp
  refine (wu_p W5.out c.mode 1 1 rfl (by omega) (by omega) (by omega) (by omega) (by simp only [List.length_append, List.length_nil, be_length]; omega)).mono ?_
  rintro e w6 ⟨rfl, A6, hw, hk, hb⟩
  have W6 := Lib.hid hw
  have E6 := Lib.hid (E5.out.next hk hb)
  have y6 := (⟨W6.out.box.cell 0, W6.out.box.cell 1, W6.out.box.cell 2, W6.out.box.cell 3, W6.out.box.cell 5⟩ : (fun w' => w'.cell? ⟨w.heap.size, 0, none⟩ = some (.int .i64 c.boots) ∧ w'.cell? ⟨w.heap.size, 1, none⟩ = some (.int .i64 c.mode) ∧ w'.cell? ⟨w.heap.size, 2, none⟩ = some (.int .i64 c.time) ∧ w'.cell? ⟨w.heap.size, 3, none⟩ = some (.slice X m cc) ∧ w'.cell? ⟨w.heap.size, 5, none⟩ = some (.slice none 0 0)) w6)
  clear hw hk hb
  refine hK.out _ _ (by exact y6) (fun hHeld => ?_)
  clear hK K
  (try simp only [Act.put, List.setIfInBounds_toArray, List.set_cons_zero, List.set_cons_succ])
  refine wpAnyH_ready (rs := [10]) (by kernel_rfl) (by simp) ?_
  refine AllReadyH.cons (o := { dst := some 34, op := Op.call { callee := Callee.value (Operand.func 109), args := #[Operand.tmp 31, Operand.tmp 33], argTypes := #[117, 3] }, type := 117, pos := _, after := #[{ on := 7, ground := Ground.data }, { on := 9, ground := Ground.data }, { on := 7, ground := Ground.chain }], guard := none }) rfl (fun K hK => ?_) AllReadyH.nil
  go_simp
  refine (wi_p W6.out c.time (by omega) (by omega) (by simp only [List.length_append, List.length_nil, be_length]; omega)).mono ?_
  rintro e w7 ⟨rfl, A7, hw, hk, hb⟩
  have W7 := Lib.hid hw
  have E7 := Lib.hid (E6.out.next hk hb)
  have y7 := (⟨W7.out.box.cell 0, W7.out.box.cell 1, W7.out.box.cell 2, W7.out.box.cell 3, W7.out.box.cell 5⟩ : (fun w' => w'.cell? ⟨w.heap.size, 0, none⟩ = some (.int .i64 c.boots) ∧ w'.cell? ⟨w.heap.size, 1, none⟩ = some (.int .i64 c.mode) ∧ w'.cell? ⟨w.heap.size, 2, none⟩ = some (.int .i64 c.time) ∧ w'.cell? ⟨w.heap.size, 3, none⟩ = some (.slice X m cc) ∧ w'.cell? ⟨w.heap.size, 5, none⟩ = some (.slice none 0 0)) w7)
  clear hw hk hb
  refine hK.out _ _ (by exact y7) (fun hHeld => ?_)
  clear hK K
  (try simp only [Act.put, List.setIfInBounds_toArray, List.set_cons_zero, List.set_cons_succ])
  refine wpAnyH_ready (rs := [13]) (by kernel_rfl) (by simp) ?_
  refine AllReadyH.cons (o := { dst := some 37, op := Op.call { callee := Callee.value (Operand.func 110), args := #[Operand.tmp 34, Operand.tmp 36], argTypes := #[117, 35] }, type := 117, pos := _, after := #[{ on := 10, ground := Ground.data }, { on := 12, ground := Ground.data }, { on := 10, ground := Ground.chain }], guard := none }) rfl (fun K hK => ?_) AllReadyH.nil
  go_simp
  refine (wb_p W7.out X m cc (imageL c.led) (by have := hm160.out; omega) (by simp only [List.length_append, List.length_nil, be_length]; omega) (PV.out.vl.keep0 W7.out.keep) (W7.out.apart PO.out)).mono ?_
  rintro e w8 ⟨rfl, A8, hw, hk, hb⟩
  have W8 := Lib.hid hw
  have E8 := Lib.hid (E7.out.next hk hb)
  have y8 := (⟨W8.out.box.cell 0, W8.out.box.cell 1, W8.out.box.cell 2, W8.out.box.cell 3, W8.out.box.cell 5⟩ : (fun w' => w'.cell? ⟨w.heap.size, 0, none⟩ = some (.int .i64 c.boots) ∧ w'.cell? ⟨w.heap.size, 1, none⟩ = some (.int .i64 c.mode) ∧ w'.cell? ⟨w.heap.size, 2, none⟩ = some (.int .i64 c.time) ∧ w'.cell? ⟨w.heap.size, 3, none⟩ = some (.slice X m cc) ∧ w'.cell? ⟨w.heap.size, 5, none⟩ = some (.slice none 0 0)) w8)
  clear hw hk hb
  refine hK.out _ _ (by exact y8) (fun hHeld => ?_)
  clear hK K
  (try simp only [Act.put, List.setIfInBounds_toArray, List.set_cons_zero, List.set_cons_succ])
  refine wpAnyH_ready (rs := [15]) (by kernel_rfl) (by simp) ?_
  refine AllReadyH.cons (o := { dst := some 39, op := Op.call { callee := Callee.value (Operand.func 110), args := #[Operand.tmp 37, Operand.tmp 38], argTypes := #[117, 35] }, type := 117, pos := _, after := #[{ on := 13, ground := Ground.data }, { on := 14, ground := Ground.data }, { on := 13, ground := Ground.chain }], guard := none }) rfl (fun K hK => ?_) AllReadyH.nil
  go_simp
  refine (wb_p W8.out A3 n3 c3 [0] (by have := N3.out; omega) (by simp only [List.length_append, List.length_nil, be_length]; omega) E8.out.v (fun _ x hx => (E8.out.a x hx).2)).mono ?_
  rintro e w9 ⟨rfl, A9, hw, hk, hb⟩
  have W9 := Lib.hid hw
  have E9 := Lib.hid (E8.out.next hk hb)
  have y9 := (⟨W9.out.box.cell 0, W9.out.box.cell 1, W9.out.box.cell 2, W9.out.box.cell 3, W9.out.box.cell 5⟩ : (fun w' => w'.cell? ⟨w.heap.size, 0, none⟩ = some (.int .i64 c.boots) ∧ w'.cell? ⟨w.heap.size, 1, none⟩ = some (.int .i64 c.mode) ∧ w'.cell? ⟨w.heap.size, 2, none⟩ = some (.int .i64 c.time) ∧ w'.cell? ⟨w.heap.size, 3, none⟩ = some (.slice X m cc) ∧ w'.cell? ⟨w.heap.size, 5, none⟩ = some (.slice none 0 0)) w9)
  clear hw hk hb
  refine hK.out _ _ (by exact y9) (fun hHeld => ?_)
  clear hK K
  (try simp only [Act.put, List.setIfInBounds_toArray, List.set_cons_zero, List.set_cons_succ])
  refine wpAnyH_ready (rs := [19]) (by kernel_rfl) (by simp) ?_
  refine AllReadyH.cons (o := { dst := some 43, op := Op.call { callee := Callee.value (Operand.func 109), args := #[Operand.tmp 39, Operand.tmp 42], argTypes := #[117, 3] }, type := 117, pos := _, after := #[{ on := 15, ground := Ground.data }, { on := 18, ground := Ground.data }, { on := 15, ground := Ground.chain }], guard := none }) rfl (fun K hK => ?_) AllReadyH.nil
  go_simp
  refine (wi_p W9.out 0 (by omega) (by omega) (by simp only [List.length_append, List.length_nil, be_length]; omega)).mono ?_
  rintro e w10 ⟨rfl, A10, hw, hk, hb⟩
  have W10 := Lib.hid hw
  have E10 := Lib.hid (E9.out.next hk hb)
  have y10 := (⟨W10.out.box.cell 0, W10.out.box.cell 1, W10.out.box.cell 2, W10.out.box.cell 3, W10.out.box.cell 5⟩ : (fun w' => w'.cell? ⟨w.heap.size, 0, none⟩ = some (.int .i64 c.boots) ∧ w'.cell? ⟨w.heap.size, 1, none⟩ = some (.int .i64 c.mode) ∧ w'.cell? ⟨w.heap.size, 2, none⟩ = some (.int .i64 c.time) ∧ w'.cell? ⟨w.heap.size, 3, none⟩ = some (.slice X m cc) ∧ w'.cell? ⟨w.heap.size, 5, none⟩ = some (.slice none 0 0)) w10)
  clear hw hk hb
  refine hK.out _ _ (by exact y10) (fun hHeld => ?_)
  clear hK K
  (try simp only [Act.put, List.setIfInBounds_toArray, List.set_cons_zero, List.set_cons_succ])
  refine wpAnyH_done (by kernel_rfl) ?_ _
  have hpre : headC c = ([] ++ vI c.boots ++ be c.mode 1 ++ vI c.time ++ vB (imageL c.led) ++ vB [0] ++ vI 0) ++ vI (c.done.length : Int) := by unfold headC; rw [List.nil_append]
  obtain ⟨E, hE⟩ : ∃ E, E = [] ++ vI c.boots ++ be c.mode 1 ++ vI c.time ++ vB (imageL c.led) ++ vB [0] ++ vI 0 := ⟨_, rfl⟩
  have hEl : E.length ≤ 250 := by rw [hE]; simp only [List.length_append, List.length_nil, be_length]; omega
  rw [← hE] at W10 hpre
  have HPRE := Lib.hid hpre
  have z5 : w10.cell? ⟨w.heap.size, 5, none⟩ = some (.slice none 0 0) := W10.out.box.cell 5
  have z6 : w10.cell? ⟨w.heap.size, 6, none⟩ = some (.slice Y n d) := W10.out.box.cell 6
  clear hE hpre E5 E6 E7 E8 E9 E10 W5 W6 W7 W8 W9 E4 y4 y5 y6 y7 y8 y9 y10 W4
  rename_i hHd
  clear hHd
  go_wp2_with fail
  go_loopw [47] (fun j wr => j = .int .i64 0 ∧ wr = w10) (fun _ _ => 0)
  case atStart => exact ⟨rfl, rfl⟩
  case round =>
    obtain ⟨rfl, hwr⟩ := hrel
    rw [hwr]
    clear hwr wr
    go_wp2_with fail
    refine (wi_p W10.out (n : Int) (by omega) (by omega) (by omega)).mono ?_
    rintro e w11 ⟨rfl, A11, hw, hk, hb⟩
    have W11 : Hid (WS w w11 g A11 (headC c) TC (ccs c ⟨X, m, cc, Y, n, d⟩)) := Lib.hid (by rw [HPRE.out, ← HN.out]; exact hw)
    have hHl : (headC c).length ≤ 300 := by rw [HPRE.out, List.length_append]; have := HIL.out (c.done.length : Int) (by omega) (by have := HN.out; omega); omega
    have HHL := Lib.hid hHl
    clear hw hk hb z5 z6 hHl
    have z6 : w11.cell? ⟨w.heap.size, 6, none⟩ = some (.slice Y n d) := W11.out.box.cell 6
    go_wp2_with fail
    go_loopw [64] (fun j wr => ∃ (k : Nat) (A : Option Addr), k ≤ n ∧ j = .int .i64 k ∧ WS w wr g A (headC c ++ (c.done.take k).flatMap fE) TC (ccs c ⟨X, m, cc, Y, n, d⟩)) (fun j _ => n - (intOf j).toNat)
    case atStart => exact ⟨0, A11, Nat.zero_le _, rfl, by rw [List.take_zero, List.flatMap_nil, List.append_nil]; exact W11.out⟩
    case round =>
      obtain ⟨k, A, hk, rfl, hws⟩ := hrel
      have WK := Lib.hid hws
      clear hws z6
      have hln : (headC c ++ (c.done.take k).flatMap fE).length ≤ 1200 := by rw [List.length_append, fE_len, List.length_take]; have := HHL.out; omega
      by_cases hlt : k < n
      · have hki : (k : Int) < (n : Int) := by omega
        have hkd : (k : Int) ≤ (d : Int) := by have := hnd.out; omega
        have hdI : (d : Int) ≤ 9223372036854775807 := by have := hnd.out.2; unfold maxLen at this; omega
        obtain ⟨b, o, x, rfl, hxk, d0, d1⟩ := fi_at (G := Y) (n := n) (by exact PV.out.vd.keep0 WK.out.keep) hlt
        obtain ⟨W1, hW1⟩ : ∃ W, W = wr.alloc (.cells #[.int .i64 x.s, .int .i64 x.n] TF) := ⟨_, rfl⟩
        obtain ⟨q, hq⟩ : ∃ q, q = wr.heap.size := ⟨_, rfl⟩
        have ka : Keep wr.heap.size [] wr W1 := by rw [hW1]; exact (Keep.refl _ _ _).alloc (Nat.le_refl _) _
        have hbq : Blk W1 q TF #[.int .i64 x.s, .int .i64 x.n] := by rw [hW1, hq]; exact Blk.new _ _ _
        have hqn : Hid (q ∉ g :: blks A) := Lib.hid (WK.out.new (by omega))
        have WA := Lib.hid (WK.out.other ka)
        have Q1 := Lib.hid hbq
        obtain ⟨⟨s0, s1⟩, n0, n1⟩ := HFS.out x (List.mem_of_getElem? hxk)
        have us := u64_in x.s (by omega) (by omega)
        have un := u64_in x.n (by omega) (by omega)
        have HXT : Hid ((c.done.take (k + 1)).flatMap fE = (c.done.take k).flatMap fE ++ (be x.s 1 ++ be x.n 2)) := Lib.hid (by rw [List.take_add_one, hxk, List.flatMap_append]; simp [fE])
        clear ka hbq hxk
        go_upto_region 17 with fail
        change Code.wp _ _ _ _ (wr.alloc (.cells #[.int .i64 x.s, .int .i64 x.n] TF))
        rw [← hW1, ← hq]
        clear hW1 hq
        have y0 : W1.drew.cell? ⟨q, 0, none⟩ = some (.int .i64 x.s) ∧ W1.drew.cell? ⟨q, 1, none⟩ = some (.int .i64 x.n) := ⟨Q1.out.cell 0, Q1.out.cell 1⟩
        refine wp_region_held_drew (S := (fun w' => w'.cell? ⟨q, 0, none⟩ = some (.int .i64 x.s) ∧ w'.cell? ⟨q, 1, none⟩ = some (.int .i64 x.n))) (by kernel_rfl) (by exact y0) (fun hHeld => ?_)
        refine wpAnyH_take (i := 0) (oi := { dst := some 68, op := Op.move (Operand.tmp 6), type := 117, pos := _, after := #[], guard := none }) (v := _) rfl (by kernel_rfl) (by kernel_rfl) (by kernel_rfl) (fun _ _ _ h => h) (Or.inl ⟨by rfl, by (intro wS hSw; (try dsimp only at hSw); go_simp; try with_reducible rfl)⟩) (by assumption) ?_
        (try simp only [Act.put, List.setIfInBounds_toArray, List.set_cons_zero, List.set_cons_succ])
        refine wpAnyH_take (i := 1) (oi := { dst := some 69, op := Op.fieldAddr 75 (Operand.tmp 10) 0, type := 0, pos := _, after := #[], guard := none }) (v := _) rfl (by kernel_rfl) (by kernel_rfl) (by kernel_rfl) (fun _ _ _ h => h) (Or.inl ⟨by rfl, by (intro wS hSw; (try dsimp only at hSw); go_simp; try with_reducible rfl)⟩) (by assumption) ?_
        (try simp only [Act.put, List.setIfInBounds_toArray, List.set_cons_zero, List.set_cons_succ])
        refine wpAnyH_take (i := 2) (oi := { dst := some 70, op := Op.load 3 (Operand.tmp 69), type := 3, pos := _, after := #[{ on := 1, ground := Ground.data }], guard := none }) (v := _) rfl (by kernel_rfl) (by kernel_rfl) (by kernel_rfl) (fun _ _ _ h => h) (Or.inl ⟨by rfl, by (intro wS hSw; (try dsimp only at hSw); go_simp; try with_reducible rfl)⟩) (by assumption) ?_
        (try simp only [Act.put, List.setIfInBounds_toArray, List.set_cons_zero, List.set_cons_succ])
        refine wpAnyH_take (i := 3) (oi := { dst := some 71, op := Op.convert 3 95 (Operand.tmp 70), type := 95, pos := _, after := #[{ on := 2, ground := Ground.data }], guard := none }) (v := _) rfl (by kernel_rfl) (by kernel_rfl) (by kernel_rfl) (fun _ _ _ h => h) (Or.inl ⟨by rfl, by (intro wS hSw; (try dsimp only at hSw); go_simp; try with_reducible rfl)⟩) (by assumption) ?_
        (try simp only [Act.put, List.setIfInBounds_toArray, List.set_cons_zero, List.set_cons_succ])
        refine wpAnyH_take (i := 5) (oi := { dst := some 73, op := Op.fieldAddr 75 (Operand.tmp 10) 1, type := 0, pos := _, after := #[], guard := none }) (v := _) rfl (by kernel_rfl) (by kernel_rfl) (by kernel_rfl) (fun _ _ _ h => h) (Or.inl ⟨by rfl, by (intro wS hSw; (try dsimp only at hSw); go_simp; try with_reducible rfl)⟩) (by assumption) ?_
        (try simp only [Act.put, List.setIfInBounds_toArray, List.set_cons_zero, List.set_cons_succ])
        refine wpAnyH_take (i := 6) (oi := { dst := some 74, op := Op.load 3 (Operand.tmp 73), type := 3, pos := _, after := #[{ on := 5, ground := Ground.data }], guard := none }) (v := _) rfl (by kernel_rfl) (by kernel_rfl) (by kernel_rfl) (fun _ _ _ h => h) (Or.inl ⟨by rfl, by (intro wS hSw; (try dsimp only at hSw); go_simp; try with_reducible rfl)⟩) (by assumption) ?_
        (try simp only [Act.put, List.setIfInBounds_toArray, List.set_cons_zero, List.set_cons_succ])
        refine wpAnyH_take (i := 7) (oi := { dst := some 75, op := Op.convert 3 95 (Operand.tmp 74), type := 95, pos := _, after := #[{ on := 6, ground := Ground.data }], guard := none }) (v := _) rfl (by kernel_rfl) (by kernel_rfl) (by kernel_rfl) (fun _ _ _ h => h) (Or.inl ⟨by rfl, by (intro wS hSw; (try dsimp only at hSw); go_simp; try with_reducible rfl)⟩) (by assumption) ?_
        (try simp only [Act.put, List.setIfInBounds_toArray, List.set_cons_zero, List.set_cons_succ])
        refine wpAnyH_ready (rs := [4]) (by kernel_rfl) (by simp) ?_
        refine AllReadyH.cons (o := { dst := some 72, op := Op.call { callee := Callee.value (Operand.func 50), args := #[Operand.tmp 68, Operand.tmp 71, Operand.const (Value.int IntKind.i64 1)], argTypes := #[117, 95, 3] }, type := 117, pos := _, after := #[{ on := 0, ground := Ground.data }, { on := 3, ground := Ground.data }], guard := none }) rfl (fun K hK => ?_) AllReadyH.nil
        go_simp
        refine (wu_p WA.out.drew x.s 1 1 rfl (by omega) (by omega) (by omega) (by omega) (by omega)).mono ?_
        rintro e v1 ⟨rfl, A1, hw, hk1, hb⟩
        have V1 := Lib.hid hw
        have Q2 := Lib.hid (Q1.out.keepS hk1.undrew hqn.out)
        have hqn2 : Hid (q ∉ g :: blks A1) := Lib.hid (apart_next hqn.out Q1.out.lt hb)
        have y1 : v1.cell? ⟨q, 0, none⟩ = some (.int .i64 x.s) ∧ v1.cell? ⟨q, 1, none⟩ = some (.int .i64 x.n) := ⟨Q2.out.cell 0, Q2.out.cell 1⟩
        clear hw hk1 hb
        refine hK.out _ _ (by exact y1) (fun hHeld => ?_)
        clear hK K
        (try simp only [Act.put, List.setIfInBounds_toArray, List.set_cons_zero, List.set_cons_succ])
        refine wpAnyH_ready (rs := [8]) (by kernel_rfl) (by simp) ?_
        refine AllReadyH.cons (o := { dst := some 76, op := Op.call { callee := Callee.value (Operand.func 50), args := #[Operand.tmp 72, Operand.tmp 75, Operand.const (Value.int IntKind.i64 2)], argTypes := #[117, 95, 3] }, type := 117, pos := _, after := #[{ on := 4, ground := Ground.data }, { on := 7, ground := Ground.data }, { on := 4, ground := Ground.chain }], guard := none }) rfl (fun K hK => ?_) AllReadyH.nil
        go_simp
        refine (wu_p V1.out x.n 2 2 rfl (by omega) (by omega) (by omega) (by omega) (by rw [List.length_append, be_length]; omega)).mono ?_
        rintro e v2 ⟨rfl, A2, hw, hk2, hb⟩
        have V2 := Lib.hid hw
        have Q3 := Lib.hid (Q2.out.keepS hk2 hqn2.out)
        have y2 : v2.cell? ⟨q, 0, none⟩ = some (.int .i64 x.s) ∧ v2.cell? ⟨q, 1, none⟩ = some (.int .i64 x.n) := ⟨Q3.out.cell 0, Q3.out.cell 1⟩
        clear hw hk2 hb
        refine hK.out _ _ (by exact y2) (fun hHeld => ?_)
        clear hK K
        (try simp only [Act.put, List.setIfInBounds_toArray, List.set_cons_zero, List.set_cons_succ])
        refine wpAnyH_done (by kernel_rfl) ?_ _
        rename_i hHd
        clear hHd y0 y1 y2
        go_wp2_with fail
        go_roundw
        case rel => exact ⟨k + 1, _, by omega, by go_num, by rw [HXT.out, ← List.append_assoc, ← List.append_assoc]; exact V2.out⟩
        case measure => simp [intOf] <;> omega
      · obtain rfl : k = n := by omega
        have ht : c.done.take k = c.done := by rw [HN.out, List.take_length]
        have HT := Lib.hid ht
        have y7 : wr.cell? ⟨w.heap.size, 7, none⟩ = some (.int .i64 c.next) := WK.out.box.cell 7
        clear ht
        go_wp2_with fail
        refine (wi_p WK.out c.next (by omega) (by omega) (by omega)).mono ?_
        rintro e w12 ⟨rfl, A12, hw, hk12, hb⟩
        have W12 := Lib.hid hw
        have hl12 : (headC c ++ (c.done.take k).flatMap fE ++ vI c.next).length ≤ 1300 := by rw [List.length_append]; have := HIL.out c.next (by omega) (by omega); omega
        have HL12 := Lib.hid hl12
        clear hw hk12 hb hl12 y7
        go_wp2_with fail
        refine (wbytes_any _ g _ _ W12.out.wr (by have := HL12.out; omega)).mono ?_
        rintro e w13 ⟨A13, n13, c13, rfl, hn, hs, hk13, hb⟩
        have NN := Lib.hid hn
        have SS := Lib.hid hs
        have K13 := Lib.hid hk13
        have HB := Lib.hid hb
        clear hn hs hk13 hb
        go_wp2_with fail
        go_ret2
        refine ⟨A13, n13, c13, rfl, ?_, ?_, W12.out.keep.chain0 (Nat.le_refl _) K13.out, fun x hx => Nat.le_trans W12.out.keep.size (HB.out x hx)⟩
        · rw [NN.out, HT.out]; rfl
        · have h := SS.out
          rw [HT.out] at h
          exact h
end Go.Proofs.Ytfkbcflgbjncdaa
