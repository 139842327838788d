/- The reference's Raise of a good event. -/
import Derived.Test.YtlceepknoijndaaERer
import Derived.Test.YtlceepknoijndaaRg
namespace Go.Proofs.Ytlceepknoijndaa
set_option linter.unusedVariables false
set_option linter.unusedSimpArgs false
open Go.RowKit
abbrev z42 : Array Value := #[.int .i64 0, .slice none 0 0, .slice none 0 0, .int .i64 0, .int .i64 0, .int .i64 0, .int .i64 0, .int .i64 0]
abbrev ebox (x : Ev) : Array Value := #[.int .i64 x.t, .int .i64 x.id, .int .i64 x.sv, .int .i64 x.vl]
/-- a world on the way of the reference's Raise -/
structure RX (w W : World) (s : St) (A : Option Addr) (n c : Nat) (O : Option Addr) (m d : Nat) (x : Ev) : Prop where
  keep : Keep w.heap.size [] w W
  blk : Blk W w.heap.size 42 (rcells s A n c O m d)
  box : Blk W (w.heap.size + 1) 31 (ebox x)
  zer : Blk W (w.heap.size + 2) 42 z42
  rs : RS W s A n c O m d
  hA : 0 < n → ∀ y, y ∈ blks A → y < w.heap.size ∨ w.heap.size + 2 < y
  hO : 0 < m → ∀ y, y ∈ blks O → y < w.heap.size ∨ w.heap.size + 2 < y
section
variable {w W W' : World} {s : St} {A O : Option Addr} {n c m d : Nat} {x : Ev}
theorem RX.drewN (h : RX w W s A n c O m d x) (k : Nat) : RX w (W.drewN k) s A n c O m d x :=
  ⟨h.keep.drewN k, h.blk, h.box, h.zer, ⟨h.rs.ev, h.rs.of, h.rs.nl, h.rs.ml, h.rs.nc, h.rs.cm, h.rs.md, h.rs.dm⟩, h.hA, h.hO⟩
theorem RX.drew (h : RX w W s A n c O m d x) : RX w W.drew s A n c O m d x :=
  ⟨h.keep.drew, h.blk, h.box, h.zer, ⟨h.rs.ev, h.rs.of, h.rs.nl, h.rs.ml, h.rs.nc, h.rs.cm, h.rs.md, h.rs.dm⟩, h.hA, h.hO⟩
theorem RX.next (h : RX w W s A n c O m d x) (k : Keep W.heap.size [] W W') : RX w W' s A n c O m d x :=
  ⟨h.keep.chain0 (Nat.le_refl _) k, h.blk.keepS k (by simp), h.box.keepS k (by simp), h.zer.keepS k (by simp), h.rs.keep0 k, h.hA, h.hO⟩
theorem RX.cells (h : RX w W s A n c O m d x) : W.cell? ⟨w.heap.size, 1, none⟩ = some (.slice A n c) ∧ W.cell? ⟨w.heap.size + 1, 0, none⟩ = some (.int .i64 x.t) ∧ W.cell? ⟨w.heap.size + 1, 1, none⟩ = some (.int .i64 x.id) ∧ W.cell? ⟨w.heap.size + 1, 2, none⟩ = some (.int .i64 x.sv) ∧ W.cell? ⟨w.heap.size + 1, 3, none⟩ = some (.int .i64 x.vl) :=
  ⟨h.blk.cell 1, h.box.cell 0, h.box.cell 1, h.box.cell 2, h.box.cell 3⟩
theorem RX.cells8 (h : RX w W s A n c O m d x) : (W.cell? ⟨w.heap.size, 0, none⟩ = some (.int .i64 s.most) ∧ W.cell? ⟨w.heap.size, 1, none⟩ = some (.slice A n c) ∧ W.cell? ⟨w.heap.size, 2, none⟩ = some (.slice O m d) ∧ W.cell? ⟨w.heap.size, 3, none⟩ = some (.int .i64 s.c0) ∧ W.cell? ⟨w.heap.size, 4, none⟩ = some (.int .i64 s.c1) ∧ W.cell? ⟨w.heap.size, 5, none⟩ = some (.int .i64 s.c2) ∧ W.cell? ⟨w.heap.size, 6, none⟩ = some (.int .i64 s.c3) ∧ W.cell? ⟨w.heap.size, 7, none⟩ = some (.int .i64 s.c4)) ∧ W.cell? ⟨w.heap.size + 1, 1, none⟩ = some (.int .i64 x.id) :=
  ⟨rcell8 h.blk, h.box.cell 1⟩
theorem rx_start (hR : RS w s A n c O m d) : RX w (((w.alloc (.cells (rcells s A n c O m d) 42)).alloc (.cells (ebox x) 31)).alloc (.cells z42 42)) s A n c O m d x := by
  have b1 := ((Blk.new w 42 (rcells s A n c O m d)).alloc (.cells (ebox x) 31)).alloc (.cells z42 42)
  have b2 := (Blk.new (w.alloc (.cells (rcells s A n c O m d) 42)) 31 (ebox x)).alloc (.cells z42 42)
  have b3 := Blk.new ((w.alloc (.cells (rcells s A n c O m d) 42)).alloc (.cells (ebox x) 31)) 42 z42
  refine ⟨kw3 w _ _ _, b1, by simpa using b2, by simpa using b3, hR.keep0 (kw3 w _ _ _), fun h y hy => .inl ?_, fun h y hy => .inl ?_⟩
  · obtain ⟨b, o, rfl, hb, _⟩ := hR.ev.2 h
    rcases List.mem_singleton.1 hy with rfl; exact hb
  · obtain ⟨b, o, rfl, hb, _⟩ := hR.of.2 h
    rcases List.mem_singleton.1 hy with rfl; exact hb
theorem rcell_k (s : St) (A O : Option Addr) (n c m d k : Nat) (h1 : 1 ≤ k) (h4 : k ≤ 4) : (rcells s A n c O m d)[3 + k]? = some (.int .i64 (cntP s k)) := by
  have : k = 1 ∨ k = 2 ∨ k = 3 ∨ k = 4 := by omega
  rcases this with rfl | rfl | rfl | rfl <;> rfl
theorem rset_k (s : St) (A O : Option Addr) (n c m d k : Nat) (h1 : 1 ≤ k) (h4 : k ≤ 4) : (rcells s A n c O m d).setIfInBounds (3 + k) (.int .i64 (cntP s k + 1)) = rcells (bump s k s.L) A n c O m d := by
  have : k = 1 ∨ k = 2 ∨ k = 3 ∨ k = 4 := by omega
  rcases this with rfl | rfl | rfl | rfl <;> rfl
theorem RX.set (h : RX w W s A n c O m d x) (i : Nat) (u : Value) : Keep w.heap.size [] w (W.setCell ⟨w.heap.size, i, none⟩ u) ∧ Blk (W.setCell ⟨w.heap.size, i, none⟩ u) w.heap.size 42 ((rcells s A n c O m d).setIfInBounds i u) ∧
    Blk (W.setCell ⟨w.heap.size, i, none⟩ u) (w.heap.size + 1) 31 (ebox x) ∧ Blk (W.setCell ⟨w.heap.size, i, none⟩ u) (w.heap.size + 2) 42 z42 ∧ Vw (W.setCell ⟨w.heap.size, i, none⟩ u) O m 1 (nums s.off) ∧ Vw (W.setCell ⟨w.heap.size, i, none⟩ u) A n 4 (evs s.L) := by
  have k1 : Keep W.heap.size [w.heap.size] W (W.setCell ⟨w.heap.size, i, none⟩ u) := (Keep.refl _ _ _).setS (by simp)
  exact ⟨h.keep.setN (Nat.le_refl _), h.blk.set_ i u, h.box.keepS k1 (by simp), h.zer.keepS k1 (by simp), h.rs.of.keepP k1 (fun hm y hy => by have := h.hO hm y hy; simp; omega), h.rs.ev.keepP k1 (fun hm y hy => by have := h.hA hm y hy; simp; omega)⟩
theorem RX.count (h : RX w W s A n c O m d x) (k : Nat) (h1 : 1 ≤ k) (h4 : k ≤ 4) : RX w (W.setCell ⟨w.heap.size, 3 + k, none⟩ (.int .i64 (cntP s k + 1))) (bump s k s.L) A n c O m d x := by
  obtain ⟨a1, a2, a3, a4, a5, a6⟩ := h.set (3 + k) (.int .i64 (cntP s k + 1))
  rw [rset_k s A O n c m d k h1 h4] at a2
  exact ⟨a1, a2, a3, a4, ⟨a6, a5, h.rs.nl, h.rs.ml, h.rs.nc, h.rs.cm, h.rs.md, h.rs.dm⟩, h.hA, h.hO⟩
/-- the list of events is another -/
theorem RX.row (h : RX w W s A n c O m d x) {A2 : Option Addr} {n2 c2 : Nat} {L : List Ev} (hv : Vw W A2 n2 4 (evs L)) (hl : n2 = L.length) (hc : n2 ≤ c2) (hm : c2 ≤ maxLen) (hA : 0 < n2 → ∀ y, y ∈ blks A2 → y < w.heap.size ∨ w.heap.size + 2 < y) :
    RX w (W.setCell ⟨w.heap.size, 1, none⟩ (.slice A2 n2 c2)) ⟨s.most, L, s.c0, s.c1, s.c2, s.c3, s.c4, s.off⟩ A2 n2 c2 O m d x := by
  obtain ⟨a1, a2, a3, a4, a5, a6⟩ := h.set 1 (.slice A2 n2 c2)
  have k1 : Keep W.heap.size [w.heap.size] W (W.setCell ⟨w.heap.size, 1, none⟩ (.slice A2 n2 c2)) := (Keep.refl _ _ _).setS (by simp)
  exact ⟨a1, a2, a3, a4, ⟨hv.keepP k1 (fun hm y hy => by have := hA hm y hy; simp; omega), a5, hl, h.rs.ml, hc, hm, h.rs.md, h.rs.dm⟩, hA, h.hO⟩
end
theorem evs_one (L : List Ev) (x : Ev) : evs (L ++ [x]) = evs L ++ (ebox x).toList := by simp [evs, List.flatMap_append]
theorem vtail {w : World} {b o n : Nat} {y : Ev} {M : List Ev} (h : Vw w (some ⟨b, o, none⟩) (n + 1) 4 (evs (y :: M))) : Vw w (some ⟨b, o + 4, none⟩) n 4 (evs M) := by
  have hl := h.1
  have e1 : evs (y :: M) = ecells y ++ evs M := rfl
  rw [e1, List.length_append] at hl
  simp only [ecells, List.length_cons, List.length_nil] at hl
  refine ⟨by omega, fun _ => ?_⟩
  obtain ⟨b', o', he, hb, hc⟩ := h.2 (by omega)
  cases he
  refine ⟨b, o + 4, rfl, hb, fun j u hu => ?_⟩
  have := hc (4 + j) u (by rw [e1, List.getElem?_append_right (by simp)]; simpa using hu)
  rw [show o + 4 + j = o + (4 + j) by omega]
  exact this
def RGPost (w : World) (s : St) (O : Option Addr) (m d : Nat) (b : Bool) (e : Ending) (w' : World) : Prop := ∃ A n c, e = .returned (.tuple #[ragg s A n c O m d, .bool b, .int .i64 0]) ∧ RS w' s A n c O m d ∧ Keep w.heap.size [] w w' ∧ ∀ y, y ∈ blks A → w.heap.size ≤ y
theorem RX.fin {w W F : World} {s s' : St} {A O : Option Addr} {n c m d : Nat} {x : Ev} {b : Bool} (h : RX w W s A n c O m d x) (hs : s = s') (k : Keep W.heap.size [w.heap.size + 2] W F) (hN : ∀ y, y ∈ blks A → w.heap.size ≤ y) : RGPost w s' O m d b (.returned (.tuple #[ragg s' A n c O m d, .bool b, .int .i64 0])) F := by
  subst hs
  refine ⟨A, n, c, rfl, ⟨h.rs.ev.keepP k (fun hm y hy => by have := h.hA hm y hy; simp; omega), h.rs.of.keepP k (fun hm y hy => by have := h.hO hm y hy; simp; omega), h.rs.nl, h.rs.ml, h.rs.nc, h.rs.cm, h.rs.md, h.rs.dm⟩, h.keep.chain1 (Nat.le_refl _) k (by omega), hN⟩
set_option maxRecDepth 100000 in
set_option maxHeartbeats 16000000 in
theorem rraise_good (w : World) (s : St) (A : Option Addr) (n c : Nat) (O : Option Addr) (m d : Nat) (x : Ev) (k : Nat) (hk1 : 1 ≤ k) (hk4 : k ≤ 4) (hsv : x.sv = (k : Int)) (ht0 : 0 ≤ x.t) (ht1 : x.t ≤ 1099511627776) (hi0 : 0 ≤ x.id) (hi1 : x.id ≤ 65535)
    (hR : RS w s A n c O m d) (hm : m ≤ 100000) (hc0 : 0 ≤ cntP s k) (hc1 : cntP s k < 1000000) (hl : s.L.length < 1000) (hm0 : 0 ≤ s.most) (hm1 : s.most ≤ 256) (b : Bool) (hb : decide (x.id ∈ s.off) = b) :
    Calls Try.prog 15 #[ragg s A n c O m d, eagg x] w (RGPost w (bump s k (keepL s x)) O m d (!b)) := by
  obtain ⟨i0, hi0', hz0, hz1, hz2⟩ := info_parts infoEv
  have R0 := Lib.hid (rx_start (x := x) hR)
  obtain ⟨⟨h0, h1, h2, h3, h4, h5, h6, h7⟩, -⟩ := R0.out.cells8
  obtain ⟨-, d0, d1, d2, d3⟩ := R0.out.cells
  have hnl := hR.nl
  have hmd := hR.md
  have hn1 : n < 1000 := by omega
  have HNL := Lib.hid hnl
  have HB := Lib.hid hb
  have HSV := Lib.hid hsv
  obtain ⟨C, hC⟩ : ∃ C, cntP s k = C := ⟨_, rfl⟩
  rw [hC] at hc0 hc1
  have HC := Lib.hid hC
  have wC : IntKind.i64.wrap (C + 1) = C + 1 := by rw [IntKind.wrap_i64]; omega
  have HZ : ∃ zz, findZ s.off x.id = zz ∧ decide (zz < 0) = !b := by
    refine ⟨_, rfl, ?_⟩
    rw [← hb]
    unfold findZ
    by_cases h : x.id ∈ s.off
    · rw [if_pos h]; simp [h]
    · rw [if_neg h]; simp [h]
  obtain ⟨zz, hzz, hzb⟩ := HZ
  have HZ := Lib.hid hzz
  have HZB := Lib.hid hzb
  clear hR hnl hb hC hzz hzb
  have hv1 : 1 ≤ x.sv := by omega
  have hv4 : x.sv ≤ 4 := by omega
  have hk1' : (1 : Int) ≤ (k : Int) := by omega
  have hk5 : (k : Int) < 5 := by omega
  have hk4' : (k : Int) ≤ 4 := by omega
  clear hsv
  go_enter Try.func15, Try.ntmps15
  go_wp2_with fail
  obtain ⟨W, hW⟩ : ∃ W, W = ((w.alloc (.cells (rcells s A n c O m d) 42)).alloc (.cells (ebox x) 31)).alloc (.cells z42 42) := ⟨_, rfl⟩
  rw [← hW] at R0 h0 h1 h2 h3 h4 h5 h6 h7 d0 d1 d2 d3 ⊢
  clear hW
  rw [HSV.out] at d2
  have s0d : W.drew.cell? ⟨w.heap.size + 1, 2, none⟩ = some (.int .i64 (k : Int)) := d2
  have e1 : W.drew.cell? ⟨w.heap.size, 3 + k, none⟩ = some (.int .i64 C) := by
    have h1 := R0.out.drew.blk.cell (3 + k)
    rw [rcell_k s A O n c m d k hk1 hk4, HC.out] at h1
    exact h1
  have f1 := R0.out.drew.blk.frozen (3 + k)
  refine region_anyZ 10 (S := (fun w' => w'.cell? ⟨w.heap.size + 1, 2, none⟩ = some (.int .i64 (k : Int)) ∧ w'.cell? ⟨w.heap.size, 3 + k, none⟩ = some (.int .i64 C))) (by kernel_rfl) (by exact ⟨s0d, e1⟩) (fun hHeld => ?_)
  refine anyZ.take (i := 0) (oi := { dst := some 36, op := Op.fieldAddr 31 (Operand.tmp 3) 2, type := 0, pos := _, after := #[], guard := none }) (v := _) rfl (by kernel_rfl) (by kernel_rfl) (by kernel_rfl) (by kernel_rfl) (by kernel_rfl) (fun _ _ _ h => h) (Or.inl ⟨by rfl, by (intro wS hSw; (try dsimp only at hSw); go_simp; try with_reducible rfl)⟩) (by exact hHeld) ?_
  (try simp only [Act.put, List.setIfInBounds_toArray, List.set_cons_zero, List.set_cons_succ])
  refine anyZ.take (i := 1) (oi := { dst := some 37, op := Op.load 3 (Operand.tmp 36), type := 3, pos := _, after := #[{ on := 0, ground := Ground.data }], guard := none }) (v := _) rfl (by kernel_rfl) (by kernel_rfl) (by kernel_rfl) (by kernel_rfl) (by kernel_rfl) (fun _ _ _ h => h) (Or.inl ⟨by rfl, by (intro wS hSw; (try dsimp only at hSw); go_simp; try with_reducible rfl)⟩) (by exact hHeld) ?_
  (try simp only [Act.put, List.setIfInBounds_toArray, List.set_cons_zero, List.set_cons_succ])
  refine anyZ.take (i := 2) (oi := { dst := some 38, op := Op.fieldAddr 31 (Operand.tmp 3) 2, type := 0, pos := _, after := #[], guard := none }) (v := _) rfl (by kernel_rfl) (by kernel_rfl) (by kernel_rfl) (by kernel_rfl) (by kernel_rfl) (fun _ _ _ h => h) (Or.inl ⟨by rfl, by (intro wS hSw; (try dsimp only at hSw); go_simp; try with_reducible rfl)⟩) (by exact hHeld) ?_
  (try simp only [Act.put, List.setIfInBounds_toArray, List.set_cons_zero, List.set_cons_succ])
  refine anyZ.take (i := 3) (oi := { dst := some 39, op := Op.load 3 (Operand.tmp 38), type := 3, pos := _, after := #[{ on := 2, ground := Ground.data }], guard := none }) (v := _) rfl (by kernel_rfl) (by kernel_rfl) (by kernel_rfl) (by kernel_rfl) (by kernel_rfl) (fun _ _ _ h => h) (Or.inl ⟨by rfl, by (intro wS hSw; (try dsimp only at hSw); go_simp; try with_reducible rfl)⟩) (by exact hHeld) ?_
  (try simp only [Act.put, List.setIfInBounds_toArray, List.set_cons_zero, List.set_cons_succ])
  refine anyZ.take (i := 4) (oi := { dst := some 40, op := Op.fieldAddr 42 (Operand.tmp 2) 3, type := 0, pos := _, after := #[], guard := none }) (v := _) rfl (by kernel_rfl) (by kernel_rfl) (by kernel_rfl) (by kernel_rfl) (by kernel_rfl) (fun _ _ _ h => h) (Or.inl ⟨by rfl, by (intro wS hSw; (try dsimp only at hSw); go_simp; try with_reducible rfl)⟩) (by exact hHeld) ?_
  (try simp only [Act.put, List.setIfInBounds_toArray, List.set_cons_zero, List.set_cons_succ])
  refine anyZ.take (i := 5) (oi := { dst := some 41, op := Op.indexAddr 40 (Operand.tmp 40) (Operand.tmp 39), type := 0, pos := _, after := #[{ on := 4, ground := Ground.data }, { on := 3, ground := Ground.data }], guard := none }) (v := _) rfl (by kernel_rfl) (by kernel_rfl) (by kernel_rfl) (by kernel_rfl) (by kernel_rfl) (fun _ _ _ h => h) (Or.inl ⟨by rfl, by (intro wS hSw; (try dsimp only at hSw); go_simp; try with_reducible rfl)⟩) (by exact hHeld) ?_
  (try simp only [Act.put, List.setIfInBounds_toArray, List.set_cons_zero, List.set_cons_succ])
  refine anyZ.take (i := 6) (oi := { dst := some 42, op := Op.load 3 (Operand.tmp 41), type := 3, pos := _, after := #[{ on := 5, ground := Ground.data }], guard := none }) (v := _) rfl (by kernel_rfl) (by kernel_rfl) (by kernel_rfl) (by kernel_rfl) (by kernel_rfl) (fun _ _ _ h => h) (Or.inl ⟨by rfl, by (intro wS hSw; (try dsimp only at hSw); go_simp; try with_reducible rfl)⟩) (by exact hHeld) ?_
  (try simp only [Act.put, List.setIfInBounds_toArray, List.set_cons_zero, List.set_cons_succ])
  refine anyZ.take (i := 7) (oi := { dst := some 43, op := Op.binOp BinOp.add 3 (Operand.tmp 42) (Operand.const (Value.int IntKind.i64 1)) 3, type := 3, pos := _, after := #[{ on := 6, ground := Ground.data }], guard := none }) (v := _) rfl (by kernel_rfl) (by kernel_rfl) (by kernel_rfl) (by kernel_rfl) (by kernel_rfl) (fun _ _ _ h => h) (Or.inl ⟨by rfl, by (intro wS hSw; (try dsimp only at hSw); go_simp; try with_reducible rfl)⟩) (by exact hHeld) ?_
  (try simp only [Act.put, List.setIfInBounds_toArray, List.set_cons_zero, List.set_cons_succ])
  refine anyZ.takeU (i := 8) (oi := { dst := some 44, op := Op.fieldAddr 42 (Operand.tmp 2) 3, type := 0, pos := _, after := #[], guard := none }) (v := _) rfl (by decide) (by kernel_rfl) (by kernel_rfl) (by kernel_rfl) (fun _ _ _ h => h) (Or.inl ⟨by rfl, by (intro wS hSw; (try dsimp only at hSw); go_simp; try with_reducible rfl)⟩) (by exact hHeld) ?_
  (try simp only [Act.put, List.setIfInBounds_toArray, List.set_cons_zero, List.set_cons_succ])
  refine anyZ.take (i := 9) (oi := { dst := some 45, op := Op.indexAddr 40 (Operand.tmp 44) (Operand.tmp 37), type := 0, pos := _, after := #[{ on := 8, ground := Ground.data }, { on := 1, ground := Ground.data }, { on := 0, ground := Ground.phase }, { on := 1, ground := Ground.phase }, { on := 2, ground := Ground.phase }, { on := 3, ground := Ground.phase }, { on := 4, ground := Ground.phase }, { on := 5, ground := Ground.phase }, { on := 6, ground := Ground.phase }, { on := 7, ground := Ground.phase }], guard := none }) (v := _) rfl (by kernel_rfl) (by kernel_rfl) (by kernel_rfl) (by kernel_rfl) (by kernel_rfl) (fun _ _ _ h => h) (Or.inl ⟨by rfl, by (intro wS hSw; (try dsimp only at hSw); go_simp; try with_reducible rfl)⟩) (by exact hHeld) ?_
  (try simp only [Act.put, List.setIfInBounds_toArray, List.set_cons_zero, List.set_cons_succ])
  refine anyZ.ready (rs := [10]) (by kernel_rfl) (by simp) ?_
  refine (AllZ.cons (o := { dst := none, op := Op.store 3 (Operand.tmp 45) (Operand.tmp 43), type := 0, pos := _, after := #[{ on := 9, ground := Ground.data }, { on := 7, ground := Ground.data }, { on := 0, ground := Ground.phase }, { on := 1, ground := Ground.phase }, { on := 2, ground := Ground.phase }, { on := 3, ground := Ground.phase }, { on := 4, ground := Ground.phase }, { on := 5, ground := Ground.phase }, { on := 6, ground := Ground.phase }, { on := 7, ground := Ground.phase }], guard := none }) rfl (fun K hK => ?_) AllZ.nil)
  go_simp
  refine hK.out _ _ (fun h => absurd h (by decide)) (fun hHeld => ?_)
  clear hK K
  (try simp only [Act.put, List.setIfInBounds_toArray, List.set_cons_zero, List.set_cons_succ])
  refine anyZ.done (by kernel_rfl) ?_ _
  clear hHeld
  have R1 := Lib.hid (R0.out.count k hk1 hk4).drew
  rw [HC.out] at R1
  obtain ⟨W1, hW1⟩ : ∃ W1, W1 = (W.setCell ⟨w.heap.size, 3 + k, none⟩ (.int .i64 (C + 1))).drew := ⟨_, rfl⟩
  rw [← hW1] at R1 ⊢
  clear hW1 s0d e1 f1 d0 d1 d2 d3 h0 h1 h2 h3 h4 h5 h6 h7 R0
  obtain ⟨s1, hs1⟩ : ∃ s1, bump s k s.L = s1 := ⟨_, rfl⟩
  rw [hs1] at R1
  have HL1 : Hid (s1.L = s.L) := Lib.hid (by rw [← hs1]; rfl)
  have HS1 := Lib.hid hs1
  clear hs1
  have c1 := R1.out.drew.cells
  have HV : Hid (Vw W1 A n 4 (evs s.L)) := Lib.hid (by have := R1.out.rs.ev; rw [HL1.out] at this; exact this)
  have KQ0 : Hid (Keep W1.heap.size [] W1 W1) := Lib.hid (Keep.refl _ _ _)
  have RC : Hid (∀ F, Keep W1.heap.size [] W1 F → F.cell? ⟨w.heap.size, 1, none⟩ = some (.slice A n c) ∧ F.cell? ⟨w.heap.size + 1, 0, none⟩ = some (.int .i64 x.t) ∧ F.cell? ⟨w.heap.size + 1, 1, none⟩ = some (.int .i64 x.id) ∧ F.cell? ⟨w.heap.size + 1, 2, none⟩ = some (.int .i64 x.sv) ∧ F.cell? ⟨w.heap.size + 1, 3, none⟩ = some (.int .i64 x.vl)) := Lib.hid (fun F k => (R1.out.next k).cells)
  go_wp2_with fail
  refine region_anyZ 8 (S := (fun w' => w'.cell? ⟨w.heap.size, 1, none⟩ = some (.slice A n c) ∧ w'.cell? ⟨w.heap.size + 1, 0, none⟩ = some (.int .i64 x.t) ∧ w'.cell? ⟨w.heap.size + 1, 1, none⟩ = some (.int .i64 x.id) ∧ w'.cell? ⟨w.heap.size + 1, 2, none⟩ = some (.int .i64 x.sv) ∧ w'.cell? ⟨w.heap.size + 1, 3, none⟩ = some (.int .i64 x.vl))) (by kernel_rfl) (by exact c1) (fun hHeld => ?_)
  refine anyZ.take (i := 1) (oi := { dst := some 47, op := Op.fieldAddr 42 (Operand.tmp 2) 1, type := 0, pos := _, after := #[], guard := none }) (v := _) rfl (by kernel_rfl) (by kernel_rfl) (by kernel_rfl) (by kernel_rfl) (by kernel_rfl) (fun _ _ _ h => h) (Or.inl ⟨by rfl, by (intro wS hSw; (try dsimp only at hSw); go_simp; try with_reducible rfl)⟩) (by exact hHeld) ?_
  (try simp only [Act.put, List.setIfInBounds_toArray, List.set_cons_zero, List.set_cons_succ])
  refine anyZ.take (i := 2) (oi := { dst := some 48, op := Op.load 34 (Operand.tmp 47), type := 34, pos := _, after := #[{ on := 1, ground := Ground.data }], guard := none }) (v := _) rfl (by kernel_rfl) (by kernel_rfl) (by kernel_rfl) (by kernel_rfl) (by kernel_rfl) (fun _ _ _ h => h) (Or.inl ⟨by rfl, by (intro wS hSw; (try dsimp only at hSw); go_simp; try with_reducible rfl)⟩) (by exact hHeld) ?_
  (try simp only [Act.put, List.setIfInBounds_toArray, List.set_cons_zero, List.set_cons_succ])
  refine anyZ.take (i := 4) (oi := { dst := some 50, op := Op.load 31 (Operand.tmp 3), type := 31, pos := _, after := #[], guard := none }) (v := _) rfl (by kernel_rfl) (by kernel_rfl) (by kernel_rfl) (by kernel_rfl) (by kernel_rfl) (fun _ _ _ h => h) (Or.inl ⟨by rfl, by (intro wS hSw; (try dsimp only at hSw); go_simp; try with_reducible rfl)⟩) (by exact hHeld) ?_
  (try simp only [Act.put, List.setIfInBounds_toArray, List.set_cons_zero, List.set_cons_succ])
  refine anyZ.ready (rs := [0, 5]) (by kernel_rfl) (by simp) ?_
  refine (AllZ.cons (o := { dst := some 46, op := Op.buildSlice 34 0 #[], type := 34, pos := _, after := #[], guard := none }) rfl (fun K hK => ?_) (AllZ.cons (o := { dst := some 51, op := Op.buildSlice 34 1 #[(0, Operand.tmp 50)], type := 34, pos := _, after := #[{ on := 4, ground := Ground.data }], guard := none }) rfl (fun K hK => ?_) AllZ.nil))
  · go_simp
    obtain ⟨V0, hV⟩ : ∃ V, V = (W1.alloc (.cells #[] 31)).drew := ⟨_, rfl⟩
    have KQV0 : Hid (Keep W1.heap.size [] W1 V0) := Lib.hid (by rw [hV]; exact (KQ0.out.alloc KQ0.out.size (.cells #[] 31)).drew)
    have S0 : Hid (Sl V0 31 4 (some ⟨W1.heap.size, 0, none⟩) 0 0 []) := Lib.hid (by rw [hV]; exact World.ownsRow_made W1 #[] 0 (Nat.zero_le _) (by unfold maxLen; omega) rfl)
    have HA0 : Hid (∀ y, y ∈ blks (some ⟨W1.heap.size, 0, none⟩) → W1.heap.size ≤ y) := Lib.hid (fun y hy => by rcases List.mem_singleton.1 hy with rfl; exact KQ0.out.size)
    rw [← hV]
    clear hV
    refine hK.out _ _ (fun _ => (by exact RC.out _ KQV0.out)) (fun hHeld => ?_)
    clear hK K
    replace hHeld := hHeld (by kernel_rfl)
    (try simp only [Act.put, List.setIfInBounds_toArray, List.set_cons_zero, List.set_cons_succ])
    refine anyZ.ready (rs := [3, 5]) (by kernel_rfl) (by simp) ?_
    refine (AllZ.cons (o := { dst := some 49, op := Op.call { callee := Callee.builtin Builtin.append, args := #[Operand.tmp 46, Operand.tmp 48], argTypes := #[34, 34] }, type := 34, pos := _, after := #[{ on := 0, ground := Ground.data }, { on := 2, ground := Ground.data }], guard := none }) rfl (fun K hK => ?_) (AllZ.cons (o := { dst := some 51, op := Op.buildSlice 34 1 #[(0, Operand.tmp 50)], type := 34, pos := _, after := #[{ on := 4, ground := Ground.data }], guard := none }) rfl (fun K hK => ?_) AllZ.nil))
    · refine step_appV _ (by rfl) (.tmp 46) (.tmp 48) 34 (by rfl) 31 i0 _ 4 32 Try.underlying34 hi0' hz0 hz1 hz2 rfl (by omega) (some ⟨W1.heap.size, 0, none⟩) 0 0 [] (by rfl) (by exact S0.out) A n c (evs s.L) (by rfl) (by exact HV.out.keep0 KQV0.out) (ev_one _) (by omega) (by omega) ?_
      intro A2 c2 w2 hs3 hk3 hb3
      simp only [Nat.zero_add, List.nil_append] at hs3 ⊢
      have S2 := Lib.hid hs3
      have KQ2 : Hid (Keep W1.heap.size [] W1 w2) := Lib.hid (KQV0.out.chain (Nat.le_refl _) hk3 HA0.out)
      have HA2 : Hid (∀ y, y ∈ blks A2 → W1.heap.size ≤ y) := Lib.hid (fun y hy => by have := KQV0.out.size; rcases hb3 y hy with h | h; exact HA0.out y h; omega)
      clear hs3 hk3 hb3
      refine hK.out _ _ (fun _ => (by exact RC.out _ KQ2.out)) (fun hHeld => ?_)
      clear hK K
      replace hHeld := hHeld (by kernel_rfl)
      (try simp only [Act.put, List.setIfInBounds_toArray, List.set_cons_zero, List.set_cons_succ])
      refine anyZ.ready (rs := [5]) (by kernel_rfl) (by simp) ?_
      refine (AllZ.cons (o := { dst := some 51, op := Op.buildSlice 34 1 #[(0, Operand.tmp 50)], type := 34, pos := _, after := #[{ on := 4, ground := Ground.data }], guard := none }) rfl (fun K hK => ?_) AllZ.nil)
      go_simp
      obtain ⟨V5, hV⟩ : ∃ V, V = (w2.alloc (.cells (ebox x) 31)) := ⟨_, rfl⟩
      have KQV5 : Hid (Keep W1.heap.size [] W1 V5) := Lib.hid (by rw [hV]; exact (KQ2.out.alloc KQ2.out.size (.cells (ebox x) 31)))
      have B5 : Hid (Blk V5 w2.heap.size 31 (ebox x)) := Lib.hid (by rw [hV]; exact Blk.new w2 _ _)
      have S5 : Hid (Sl V5 31 4 A2 n c2 (evs s.L)) := Lib.hid (by rw [hV]; exact S2.out.alloc _)
      have N5 : Hid (∀ y, y ∈ blks A2 → y ≠ w2.heap.size) := Lib.hid (fun y hy => by have := S2.out.blk hy; omega)
      rw [← hV]
      clear hV
      refine hK.out _ _ (fun _ => (by exact RC.out _ KQV5.out)) (fun hHeld => ?_)
      clear hK K
      replace hHeld := hHeld (by kernel_rfl)
      (try simp only [Act.put, List.setIfInBounds_toArray, List.set_cons_zero, List.set_cons_succ])
      refine anyZ.ready (rs := [6]) (by kernel_rfl) (by simp) ?_
      refine (AllZ.cons (o := { dst := some 52, op := Op.call { callee := Callee.builtin Builtin.append, args := #[Operand.tmp 49, Operand.tmp 51], argTypes := #[34, 34] }, type := 34, pos := _, after := #[{ on := 3, ground := Ground.data }, { on := 5, ground := Ground.data }, { on := 3, ground := Ground.chain }], guard := none }) rfl (fun K hK => ?_) AllZ.nil)
      refine step_app1 _ (by rfl) (.tmp 49) (.tmp 51) 34 (by rfl) 31 i0 _ 4 32 Try.underlying34 hi0' hz0 hz1 hz2 rfl (by omega) A2 n c2 (evs s.L) (by rfl) (by exact S5.out) _ _ _ (by rfl) (by exact B5.out) rfl rfl (by omega) (by omega) ?_
      intro A3 c3 w3 hs3 hk3 hb3
      have S3 : Hid (Sl w3 31 4 A3 (n + 1) c3 (evs (s.L ++ [x]))) := Lib.hid (by rw [evs_one]; exact hs3)
      have KQ3 : Hid (Keep W1.heap.size [] W1 w3) := Lib.hid (KQV5.out.chain (Nat.le_refl _) hk3 HA2.out)
      have HA3 : Hid (∀ y, y ∈ blks A3 → W1.heap.size ≤ y) := Lib.hid (fun y hy => by have := KQV5.out.size; rcases hb3 y hy with h | h; exact HA2.out y h; omega)
      have f3 := (R1.out.next KQ3.out).blk.frozen 1
      have c3' := (R1.out.next KQ3.out).cells
      clear hs3 hk3 hb3
      refine hK.out _ _ (fun _ => (by exact RC.out _ KQ3.out)) (fun hHeld => ?_)
      clear hK K
      replace hHeld := hHeld (by kernel_rfl)
      (try simp only [Act.put, List.setIfInBounds_toArray, List.set_cons_zero, List.set_cons_succ])
      refine anyZ.take (i := 7) (oi := { dst := some 53, op := Op.fieldAddr 42 (Operand.tmp 2) 1, type := 0, pos := _, after := #[{ on := 0, ground := Ground.phase }, { on := 1, ground := Ground.phase }, { on := 2, ground := Ground.phase }, { on := 3, ground := Ground.phase }, { on := 4, ground := Ground.phase }, { on := 5, ground := Ground.phase }, { on := 6, ground := Ground.phase }], guard := none }) (v := _) rfl (by kernel_rfl) (by kernel_rfl) (by kernel_rfl) (by kernel_rfl) (by kernel_rfl) (fun _ _ _ h => h) (Or.inl ⟨by rfl, by (intro wS hSw; (try dsimp only at hSw); go_simp; try with_reducible rfl)⟩) (by exact hHeld) ?_
      (try simp only [Act.put, List.setIfInBounds_toArray, List.set_cons_zero, List.set_cons_succ])
      refine anyZ.ready (rs := [8]) (by kernel_rfl) (by simp) ?_
      refine (AllZ.cons (o := { dst := none, op := Op.store 34 (Operand.tmp 53) (Operand.tmp 52), type := 0, pos := _, after := #[{ on := 7, ground := Ground.data }, { on := 6, ground := Ground.data }, { on := 6, ground := Ground.chain }, { on := 0, ground := Ground.phase }, { on := 1, ground := Ground.phase }, { on := 2, ground := Ground.phase }, { on := 3, ground := Ground.phase }, { on := 4, ground := Ground.phase }, { on := 5, ground := Ground.phase }, { on := 6, ground := Ground.phase }], guard := none }) rfl (fun K hK => ?_) AllZ.nil)
      go_simp
      refine hK.out _ _ (fun h => absurd h (by decide)) (fun hHeld => ?_)
      clear hK K
      (try simp only [Act.put, List.setIfInBounds_toArray, List.set_cons_zero, List.set_cons_succ])
      refine anyZ.done (by kernel_rfl) ?_ _
      clear hHeld
      have R2 := Lib.hid ((R1.out.next KQ3.out).row (S3.out.vw (by omega)) (by rw [HNL.out]; simp) (slcap S3.out).1 (slcap S3.out).2 (fun _ y hy => by have := HA3.out y hy; have := R1.out.zer.lt; omega))
      have HGA : Hid (∀ y, y ∈ blks A3 → w.heap.size ≤ y) := Lib.hid (fun y hy => Nat.le_trans R1.out.keep.size (HA3.out y hy))
      have HC3 := slcap S3.out
      have HF3 := S3.out.form
      obtain ⟨W3, hW3⟩ : ∃ W3, W3 = w3.setCell ⟨w.heap.size, 1, none⟩ (.slice A3 (n + 1) c3) := ⟨_, rfl⟩
      rw [← hW3] at R2 ⊢
      clear hW3 c1 f3 c3' KQ3 HA3 S3
      clear RC HV
      obtain ⟨mo, hmo⟩ : ∃ m, s.most = m := ⟨_, rfl⟩
      have a0 : W3.cell? ⟨w.heap.size, 0, none⟩ = some (.int .i64 mo) := by have h1 := R2.out.blk.cell 0; rw [← HS1.out] at h1; rw [← hmo]; exact h1
      have a2 : W3.cell? ⟨w.heap.size, 1, none⟩ = some (.slice A3 (n + 1) c3) := R2.out.blk.cell 1
      have HMO := Lib.hid hmo
      clear hmo
      by_cases hcl : mo < (n : Int) + 1
      · have HFIN : Hid ((⟨s1.most, (s.L ++ [x]).drop 1, s1.c0, s1.c1, s1.c2, s1.c3, s1.c4, s1.off⟩ : St) = bump s k (keepL s x)) := Lib.hid (by rw [← HS1.out]; unfold keepL; rw [HMO.out, ← HNL.out, if_pos hcl]; rfl)
        rcases HF3 with ⟨_, h0, _⟩ | ⟨ga, rfl, _, q1, q2⟩
        · omega
        obtain ⟨y, M, hyM⟩ : ∃ y M, s.L ++ [x] = y :: M := by cases hL : s.L with
          | nil => exact ⟨x, [], rfl⟩
          | cons a t => exact ⟨a, t ++ [x], rfl⟩
        have q3 : ((n : Int) + 1) ≤ (c3 : Int) := by omega
        have q4 : (c3 : Int) ≤ 9223372036854775807 := by unfold maxLen at q2; omega
        have HM : Hid (n = M.length ∧ (s.L ++ [x]).drop 1 = M) := Lib.hid ⟨by have h1 := congrArg List.length hyM; simp at h1; rw [HNL.out]; omega, by rw [hyM]; rfl⟩
        by_cases hq : c3 = 1
        · subst hq
          obtain rfl : n = 0 := by omega
          have HT : Hid (Vw W3 (some ⟨ga, 0, none⟩) 0 4 (evs M)) := Lib.hid (⟨by rw [evs_len, ← HM.out.1], fun h => absurd h (by omega)⟩)
          have R4 := Lib.hid (R2.out.row HT.out HM.out.1 (c2 := 0) (by omega) (by omega) (fun hn y hy => by have := R2.out.hA (by omega) y (by simpa [blks] using hy); exact this))
          have f2 := R2.out.blk.frozen 1
          rw [HM.out.2] at HFIN
          clear hyM HT
          go_wp2_with fail
          obtain ⟨s4, hs4⟩ : ∃ s4, (⟨s1.most, M, s1.c0, s1.c1, s1.c2, s1.c3, s1.c4, s1.off⟩ : St) = s4 := ⟨_, rfl⟩
          rw [hs4] at R4 HFIN
          have HOF : Hid (s4.off = s.off) := Lib.hid (by rw [← hs4, ← HS1.out]; rfl)
          clear hs4
          obtain ⟨W4, hW4⟩ : ∃ W4, W4 = W3.setCell ⟨w.heap.size, 1, none⟩ (.slice (some ⟨ga, 0, none⟩) 0 0) := ⟨_, rfl⟩
          rw [← hW4] at R4 ⊢
          clear hW4 a0 a2 f2
          have HFF : Hid (∀ F, Keep W4.heap.size [w.heap.size + 2] W4 F → (fun w' => (w'.cell? ⟨w.heap.size, 0, none⟩ = some (.int .i64 s4.most) ∧ w'.cell? ⟨w.heap.size, 1, none⟩ = some (.slice (some ⟨ga, 0, none⟩) 0 0) ∧ w'.cell? ⟨w.heap.size, 2, none⟩ = some (.slice O m d) ∧ w'.cell? ⟨w.heap.size, 3, none⟩ = some (.int .i64 s4.c0) ∧ w'.cell? ⟨w.heap.size, 4, none⟩ = some (.int .i64 s4.c1) ∧ w'.cell? ⟨w.heap.size, 5, none⟩ = some (.int .i64 s4.c2) ∧ w'.cell? ⟨w.heap.size, 6, none⟩ = some (.int .i64 s4.c3) ∧ w'.cell? ⟨w.heap.size, 7, none⟩ = some (.int .i64 s4.c4)) ∧ w'.cell? ⟨w.heap.size + 1, 1, none⟩ = some (.int .i64 x.id)) F) := Lib.hid (fun F k => by
            have hb := R4.out.blk.keepS k (by simp)
            have he := R4.out.box.keepS k (by simp)
            exact ⟨rcell8 hb, he.cell 1⟩)
          have HOV : Hid (Vw W4.drew O m 1 (nums s.off)) := Lib.hid (by have := R4.out.drew.rs.of; rw [HOF.out] at this; exact this)
          have KR : Hid (Keep W4.heap.size [w.heap.size + 2] W4 W4) := Lib.hid (Keep.refl _ _ _)
          have y0 : W4.frozen? ⟨w.heap.size + 1 + 1, 0, none⟩ = false := R4.out.zer.frozen 0
          have y1 : W4.frozen? ⟨w.heap.size + 1 + 1, 1, none⟩ = false := R4.out.zer.frozen 1
          have y2 : W4.frozen? ⟨w.heap.size + 1 + 1, 2, none⟩ = false := R4.out.zer.frozen 2
          have y3 : W4.frozen? ⟨w.heap.size + 1 + 1, 3, none⟩ = false := R4.out.zer.frozen 3
          have y4 : W4.frozen? ⟨w.heap.size + 1 + 1, 4, none⟩ = false := R4.out.zer.frozen 4
          have y5 : W4.frozen? ⟨w.heap.size + 1 + 1, 5, none⟩ = false := R4.out.zer.frozen 5
          have y6 : W4.frozen? ⟨w.heap.size + 1 + 1, 6, none⟩ = false := R4.out.zer.frozen 6
          have y7 : W4.frozen? ⟨w.heap.size + 1 + 1, 7, none⟩ = false := R4.out.zer.frozen 7
          have x0 : W4.cell? ⟨w.heap.size + 1 + 1, 0, none⟩ = some (.int .i64 0) := R4.out.zer.cell 0
          have x1 : W4.cell? ⟨w.heap.size + 1 + 1, 1, none⟩ = some (.slice none 0 0) := R4.out.zer.cell 1
          have x2 : W4.cell? ⟨w.heap.size + 1 + 1, 2, none⟩ = some (.slice none 0 0) := R4.out.zer.cell 2
          have x3 : W4.cell? ⟨w.heap.size + 1 + 1, 3, none⟩ = some (.int .i64 0) := R4.out.zer.cell 3
          have x4 : W4.cell? ⟨w.heap.size + 1 + 1, 4, none⟩ = some (.int .i64 0) := R4.out.zer.cell 4
          have x5 : W4.cell? ⟨w.heap.size + 1 + 1, 5, none⟩ = some (.int .i64 0) := R4.out.zer.cell 5
          have x6 : W4.cell? ⟨w.heap.size + 1 + 1, 6, none⟩ = some (.int .i64 0) := R4.out.zer.cell 6
          have x7 : W4.cell? ⟨w.heap.size + 1 + 1, 7, none⟩ = some (.int .i64 0) := R4.out.zer.cell 7
          refine wp_region_held_drew (S := (fun w' => (w'.cell? ⟨w.heap.size, 0, none⟩ = some (.int .i64 s4.most) ∧ w'.cell? ⟨w.heap.size, 1, none⟩ = some (.slice (some ⟨ga, 0, none⟩) 0 0) ∧ w'.cell? ⟨w.heap.size, 2, none⟩ = some (.slice O m d) ∧ w'.cell? ⟨w.heap.size, 3, none⟩ = some (.int .i64 s4.c0) ∧ w'.cell? ⟨w.heap.size, 4, none⟩ = some (.int .i64 s4.c1) ∧ w'.cell? ⟨w.heap.size, 5, none⟩ = some (.int .i64 s4.c2) ∧ w'.cell? ⟨w.heap.size, 6, none⟩ = some (.int .i64 s4.c3) ∧ w'.cell? ⟨w.heap.size, 7, none⟩ = some (.int .i64 s4.c4)) ∧ w'.cell? ⟨w.heap.size + 1, 1, none⟩ = some (.int .i64 x.id))) (by kernel_rfl) (by exact HFF.out _ KR.out.drew) (fun hHeld => ?_)
          refine wpAnyH_take (i := 0) (oi := { dst := some 64, op := Op.load 42 (Operand.tmp 2), type := 42, pos := _, after := #[], guard := none }) (v := _) rfl (by kernel_rfl) (by kernel_rfl) (by kernel_rfl) (fun _ _ _ h => h) (Or.inl ⟨by rfl, by (intro wS hSw; (try dsimp only at hSw); go_simp; try with_reducible rfl)⟩) (by assumption) ?_
          (try simp only [Act.put, List.setIfInBounds_toArray, List.set_cons_zero, List.set_cons_succ])
          refine wpAnyH_take (i := 1) (oi := { dst := some 65, op := Op.fieldAddr 42 (Operand.tmp 2) 2, type := 0, pos := _, after := #[], guard := none }) (v := _) rfl (by kernel_rfl) (by kernel_rfl) (by kernel_rfl) (fun _ _ _ h => h) (Or.inl ⟨by rfl, by (intro wS hSw; (try dsimp only at hSw); go_simp; try with_reducible rfl)⟩) (by assumption) ?_
          (try simp only [Act.put, List.setIfInBounds_toArray, List.set_cons_zero, List.set_cons_succ])
          refine wpAnyH_take (i := 2) (oi := { dst := some 66, op := Op.load 39 (Operand.tmp 65), type := 39, pos := _, after := #[{ on := 1, ground := Ground.data }], guard := none }) (v := _) rfl (by kernel_rfl) (by kernel_rfl) (by kernel_rfl) (fun _ _ _ h => h) (Or.inl ⟨by rfl, by (intro wS hSw; (try dsimp only at hSw); go_simp; try with_reducible rfl)⟩) (by assumption) ?_
          (try simp only [Act.put, List.setIfInBounds_toArray, List.set_cons_zero, List.set_cons_succ])
          refine wpAnyH_take (i := 3) (oi := { dst := some 67, op := Op.fieldAddr 31 (Operand.tmp 3) 1, type := 0, pos := _, after := #[], guard := none }) (v := _) rfl (by kernel_rfl) (by kernel_rfl) (by kernel_rfl) (fun _ _ _ h => h) (Or.inl ⟨by rfl, by (intro wS hSw; (try dsimp only at hSw); go_simp; try with_reducible rfl)⟩) (by assumption) ?_
          (try simp only [Act.put, List.setIfInBounds_toArray, List.set_cons_zero, List.set_cons_succ])
          refine wpAnyH_take (i := 4) (oi := { dst := some 68, op := Op.load 3 (Operand.tmp 67), type := 3, pos := _, after := #[{ on := 3, ground := Ground.data }], guard := none }) (v := _) rfl (by kernel_rfl) (by kernel_rfl) (by kernel_rfl) (fun _ _ _ h => h) (Or.inl ⟨by rfl, by (intro wS hSw; (try dsimp only at hSw); go_simp; try with_reducible rfl)⟩) (by assumption) ?_
          (try simp only [Act.put, List.setIfInBounds_toArray, List.set_cons_zero, List.set_cons_succ])
          refine wpAnyH_ready (rs := [5]) (by kernel_rfl) (by simp) ?_
          refine AllReadyH.cons (o := { dst := some 69, op := Op.call { callee := Callee.value (Operand.func 22), args := #[Operand.tmp 66, Operand.tmp 68], argTypes := #[39, 3] }, type := 3, pos := _, after := #[{ on := 2, ground := Ground.data }, { on := 4, ground := Ground.data }], guard := none }) rfl (fun K hK => ?_) AllReadyH.nil
          go_simp
          refine (find_any _ O m d s.off x.id zz (by omega) hmd (by exact HOV.out) HZ.out).mono ?_
          rintro e w' ⟨rfl, rfl⟩
          refine hK.out _ _ (by exact HFF.out _ KR.out.drew) (fun hHeld => ?_)
          clear hK K
          (try simp only [Act.put, List.setIfInBounds_toArray, List.set_cons_zero, List.set_cons_succ])
          refine wpAnyH_take (i := 6) (oi := { dst := some 70, op := Op.binOp BinOp.lss 3 (Operand.tmp 69) (Operand.const (Value.int IntKind.i64 0)) 3, type := 4, pos := _, after := #[{ on := 5, ground := Ground.data }, { on := 7, ground := Ground.gcOnly Departure.lateStores }], guard := none }) (v := _) rfl (by kernel_rfl) (by kernel_rfl) (by kernel_rfl) (fun _ _ _ h => h) (Or.inl ⟨by rfl, by (intro wS hSw; (try dsimp only at hSw); go_simp; try with_reducible rfl)⟩) (by assumption) ?_
          (try simp only [Act.put, List.setIfInBounds_toArray, List.set_cons_zero, List.set_cons_succ])
          refine wpAnyH_ready (rs := [7]) (by kernel_rfl) (by simp) ?_
          refine AllReadyH.cons (o := { dst := none, op := Op.store 42 (Operand.tmp 4) (Operand.tmp 64), type := 0, pos := _, after := #[{ on := 0, ground := Ground.data }, { on := 5, ground := Ground.chain }, { on := 0, ground := Ground.phase }, { on := 1, ground := Ground.textOnly Departure.lateStores }, { on := 2, ground := Ground.textOnly Departure.lateStores }, { on := 3, ground := Ground.textOnly Departure.lateStores }, { on := 4, ground := Ground.textOnly Departure.lateStores }, { on := 5, ground := Ground.textOnly Departure.lateStoresUnsure }, { on := 6, ground := Ground.textOnly Departure.lateStores }], guard := none }) rfl (fun K hK => ?_) AllReadyH.nil
          go_simp
          refine hK.out _ _ (by exact HFF.out _ (by refine Keep.drew ?_; repeat (first | with_reducible exact KR.out | with_reducible refine Keep.setS ?_ (by simp)))) (fun hHeld => ?_)
          clear hK K
          (try simp only [Act.put, List.setIfInBounds_toArray, List.set_cons_zero, List.set_cons_succ])
          refine wpAnyH_take (i := 8) (oi := { dst := some 5, op := Op.assign (Operand.tmp 70), type := 4, pos := _, after := #[{ on := 6, ground := Ground.data }, { on := 7, ground := Ground.chain }, { on := 0, ground := Ground.phase }, { on := 1, ground := Ground.phase }, { on := 2, ground := Ground.phase }, { on := 3, ground := Ground.phase }, { on := 4, ground := Ground.phase }, { on := 5, ground := Ground.phase }, { on := 6, ground := Ground.phase }, { on := 7, ground := Ground.phase }], guard := none }) (v := _) rfl (by kernel_rfl) (by kernel_rfl) (by kernel_rfl) (fun _ _ _ h => h) (Or.inl ⟨by rfl, by (intro wS hSw; (try dsimp only at hSw); go_simp; try with_reducible rfl)⟩) (by assumption) ?_
          (try simp only [Act.put, List.setIfInBounds_toArray, List.set_cons_zero, List.set_cons_succ])
          refine wpAnyH_take (i := 9) (oi := { dst := some 6, op := Op.assign (Operand.const (Value.int IntKind.i64 0)), type := 26, pos := _, after := #[{ on := 8, ground := Ground.chain }, { on := 0, ground := Ground.phase }, { on := 1, ground := Ground.phase }, { on := 2, ground := Ground.phase }, { on := 3, ground := Ground.phase }, { on := 4, ground := Ground.phase }, { on := 5, ground := Ground.phase }, { on := 6, ground := Ground.phase }, { on := 7, ground := Ground.phase }, { on := 8, ground := Ground.phase }], guard := none }) (v := _) rfl (by kernel_rfl) (by kernel_rfl) (by kernel_rfl) (fun _ _ _ h => h) (Or.inl ⟨by rfl, by (intro wS hSw; (try dsimp only at hSw); go_simp; try with_reducible rfl)⟩) (by assumption) ?_
          (try simp only [Act.put, List.setIfInBounds_toArray, List.set_cons_zero, List.set_cons_succ])
          refine wpAnyH_done (by kernel_rfl) ?_ _
          clear hHeld
          go_wp2_with fail
          refine bodyPost_ret (v := .tuple #[ragg s4 (some ⟨ga, 0, none⟩) 0 0 O m d, .bool (decide (zz < 0)), .int .i64 0]) (by simp [results, Try.results15, go_sem, x0, x1, x2, x3, x4, x5, x6, x7]) rfl ?_
          rw [HZB.out]
          rw [← HFIN.out]
          refine R4.out.fin rfl ?_ (by exact HGA.out)
          refine Keep.drew ?_
          repeat (first | with_reducible exact KR.out | with_reducible refine Keep.setS ?_ (by simp))
        · have q5 : (2 : Int) ≤ (c3 : Int) := by omega
          have HT : Hid (Vw W3 (some ⟨ga, 4, none⟩) n 4 (evs M)) := Lib.hid (by have h1 := vtail (y := y) (by have h1 := R2.out.rs.ev; simp only [hyM] at h1; exact h1); simpa using h1)
          have R4 := Lib.hid (R2.out.row HT.out HM.out.1 (c2 := c3 - 1) (by omega) (by omega) (fun hn y hy => by have := R2.out.hA (by omega) y (by simpa [blks] using hy); exact this))
          have f2 := R2.out.blk.frozen 1
          rw [HM.out.2] at HFIN
          clear hyM HT
          go_wp2_with fail
          obtain ⟨s4, hs4⟩ : ∃ s4, (⟨s1.most, M, s1.c0, s1.c1, s1.c2, s1.c3, s1.c4, s1.off⟩ : St) = s4 := ⟨_, rfl⟩
          rw [hs4] at R4 HFIN
          have HOF : Hid (s4.off = s.off) := Lib.hid (by rw [← hs4, ← HS1.out]; rfl)
          clear hs4
          obtain ⟨W4, hW4⟩ : ∃ W4, W4 = W3.setCell ⟨w.heap.size, 1, none⟩ (.slice (some ⟨ga, 4, none⟩) n (c3 - 1)) := ⟨_, rfl⟩
          rw [← hW4] at R4 ⊢
          clear hW4 a0 a2 f2
          have HFF : Hid (∀ F, Keep W4.heap.size [w.heap.size + 2] W4 F → (fun w' => (w'.cell? ⟨w.heap.size, 0, none⟩ = some (.int .i64 s4.most) ∧ w'.cell? ⟨w.heap.size, 1, none⟩ = some (.slice (some ⟨ga, 4, none⟩) n (c3 - 1)) ∧ w'.cell? ⟨w.heap.size, 2, none⟩ = some (.slice O m d) ∧ w'.cell? ⟨w.heap.size, 3, none⟩ = some (.int .i64 s4.c0) ∧ w'.cell? ⟨w.heap.size, 4, none⟩ = some (.int .i64 s4.c1) ∧ w'.cell? ⟨w.heap.size, 5, none⟩ = some (.int .i64 s4.c2) ∧ w'.cell? ⟨w.heap.size, 6, none⟩ = some (.int .i64 s4.c3) ∧ w'.cell? ⟨w.heap.size, 7, none⟩ = some (.int .i64 s4.c4)) ∧ w'.cell? ⟨w.heap.size + 1, 1, none⟩ = some (.int .i64 x.id)) F) := Lib.hid (fun F k => by
            have hb := R4.out.blk.keepS k (by simp)
            have he := R4.out.box.keepS k (by simp)
            exact ⟨rcell8 hb, he.cell 1⟩)
          have HOV : Hid (Vw W4.drew O m 1 (nums s.off)) := Lib.hid (by have := R4.out.drew.rs.of; rw [HOF.out] at this; exact this)
          have KR : Hid (Keep W4.heap.size [w.heap.size + 2] W4 W4) := Lib.hid (Keep.refl _ _ _)
          have y0 : W4.frozen? ⟨w.heap.size + 1 + 1, 0, none⟩ = false := R4.out.zer.frozen 0
          have y1 : W4.frozen? ⟨w.heap.size + 1 + 1, 1, none⟩ = false := R4.out.zer.frozen 1
          have y2 : W4.frozen? ⟨w.heap.size + 1 + 1, 2, none⟩ = false := R4.out.zer.frozen 2
          have y3 : W4.frozen? ⟨w.heap.size + 1 + 1, 3, none⟩ = false := R4.out.zer.frozen 3
          have y4 : W4.frozen? ⟨w.heap.size + 1 + 1, 4, none⟩ = false := R4.out.zer.frozen 4
          have y5 : W4.frozen? ⟨w.heap.size + 1 + 1, 5, none⟩ = false := R4.out.zer.frozen 5
          have y6 : W4.frozen? ⟨w.heap.size + 1 + 1, 6, none⟩ = false := R4.out.zer.frozen 6
          have y7 : W4.frozen? ⟨w.heap.size + 1 + 1, 7, none⟩ = false := R4.out.zer.frozen 7
          have x0 : W4.cell? ⟨w.heap.size + 1 + 1, 0, none⟩ = some (.int .i64 0) := R4.out.zer.cell 0
          have x1 : W4.cell? ⟨w.heap.size + 1 + 1, 1, none⟩ = some (.slice none 0 0) := R4.out.zer.cell 1
          have x2 : W4.cell? ⟨w.heap.size + 1 + 1, 2, none⟩ = some (.slice none 0 0) := R4.out.zer.cell 2
          have x3 : W4.cell? ⟨w.heap.size + 1 + 1, 3, none⟩ = some (.int .i64 0) := R4.out.zer.cell 3
          have x4 : W4.cell? ⟨w.heap.size + 1 + 1, 4, none⟩ = some (.int .i64 0) := R4.out.zer.cell 4
          have x5 : W4.cell? ⟨w.heap.size + 1 + 1, 5, none⟩ = some (.int .i64 0) := R4.out.zer.cell 5
          have x6 : W4.cell? ⟨w.heap.size + 1 + 1, 6, none⟩ = some (.int .i64 0) := R4.out.zer.cell 6
          have x7 : W4.cell? ⟨w.heap.size + 1 + 1, 7, none⟩ = some (.int .i64 0) := R4.out.zer.cell 7
          refine wp_region_held_drew (S := (fun w' => (w'.cell? ⟨w.heap.size, 0, none⟩ = some (.int .i64 s4.most) ∧ w'.cell? ⟨w.heap.size, 1, none⟩ = some (.slice (some ⟨ga, 4, none⟩) n (c3 - 1)) ∧ w'.cell? ⟨w.heap.size, 2, none⟩ = some (.slice O m d) ∧ w'.cell? ⟨w.heap.size, 3, none⟩ = some (.int .i64 s4.c0) ∧ w'.cell? ⟨w.heap.size, 4, none⟩ = some (.int .i64 s4.c1) ∧ w'.cell? ⟨w.heap.size, 5, none⟩ = some (.int .i64 s4.c2) ∧ w'.cell? ⟨w.heap.size, 6, none⟩ = some (.int .i64 s4.c3) ∧ w'.cell? ⟨w.heap.size, 7, none⟩ = some (.int .i64 s4.c4)) ∧ w'.cell? ⟨w.heap.size + 1, 1, none⟩ = some (.int .i64 x.id))) (by kernel_rfl) (by exact HFF.out _ KR.out.drew) (fun hHeld => ?_)
          refine wpAnyH_take (i := 0) (oi := { dst := some 64, op := Op.load 42 (Operand.tmp 2), type := 42, pos := _, after := #[], guard := none }) (v := _) rfl (by kernel_rfl) (by kernel_rfl) (by kernel_rfl) (fun _ _ _ h => h) (Or.inl ⟨by rfl, by (intro wS hSw; (try dsimp only at hSw); go_simp; try with_reducible rfl)⟩) (by assumption) ?_
          (try simp only [Act.put, List.setIfInBounds_toArray, List.set_cons_zero, List.set_cons_succ])
          refine wpAnyH_take (i := 1) (oi := { dst := some 65, op := Op.fieldAddr 42 (Operand.tmp 2) 2, type := 0, pos := _, after := #[], guard := none }) (v := _) rfl (by kernel_rfl) (by kernel_rfl) (by kernel_rfl) (fun _ _ _ h => h) (Or.inl ⟨by rfl, by (intro wS hSw; (try dsimp only at hSw); go_simp; try with_reducible rfl)⟩) (by assumption) ?_
          (try simp only [Act.put, List.setIfInBounds_toArray, List.set_cons_zero, List.set_cons_succ])
          refine wpAnyH_take (i := 2) (oi := { dst := some 66, op := Op.load 39 (Operand.tmp 65), type := 39, pos := _, after := #[{ on := 1, ground := Ground.data }], guard := none }) (v := _) rfl (by kernel_rfl) (by kernel_rfl) (by kernel_rfl) (fun _ _ _ h => h) (Or.inl ⟨by rfl, by (intro wS hSw; (try dsimp only at hSw); go_simp; try with_reducible rfl)⟩) (by assumption) ?_
          (try simp only [Act.put, List.setIfInBounds_toArray, List.set_cons_zero, List.set_cons_succ])
          refine wpAnyH_take (i := 3) (oi := { dst := some 67, op := Op.fieldAddr 31 (Operand.tmp 3) 1, type := 0, pos := _, after := #[], guard := none }) (v := _) rfl (by kernel_rfl) (by kernel_rfl) (by kernel_rfl) (fun _ _ _ h => h) (Or.inl ⟨by rfl, by (intro wS hSw; (try dsimp only at hSw); go_simp; try with_reducible rfl)⟩) (by assumption) ?_
          (try simp only [Act.put, List.setIfInBounds_toArray, List.set_cons_zero, List.set_cons_succ])
          refine wpAnyH_take (i := 4) (oi := { dst := some 68, op := Op.load 3 (Operand.tmp 67), type := 3, pos := _, after := #[{ on := 3, ground := Ground.data }], guard := none }) (v := _) rfl (by kernel_rfl) (by kernel_rfl) (by kernel_rfl) (fun _ _ _ h => h) (Or.inl ⟨by rfl, by (intro wS hSw; (try dsimp only at hSw); go_simp; try with_reducible rfl)⟩) (by assumption) ?_
          (try simp only [Act.put, List.setIfInBounds_toArray, List.set_cons_zero, List.set_cons_succ])
          refine wpAnyH_ready (rs := [5]) (by kernel_rfl) (by simp) ?_
          refine AllReadyH.cons (o := { dst := some 69, op := Op.call { callee := Callee.value (Operand.func 22), args := #[Operand.tmp 66, Operand.tmp 68], argTypes := #[39, 3] }, type := 3, pos := _, after := #[{ on := 2, ground := Ground.data }, { on := 4, ground := Ground.data }], guard := none }) rfl (fun K hK => ?_) AllReadyH.nil
          go_simp
          refine (find_any _ O m d s.off x.id zz (by omega) hmd (by exact HOV.out) HZ.out).mono ?_
          rintro e w' ⟨rfl, rfl⟩
          refine hK.out _ _ (by exact HFF.out _ KR.out.drew) (fun hHeld => ?_)
          clear hK K
          (try simp only [Act.put, List.setIfInBounds_toArray, List.set_cons_zero, List.set_cons_succ])
          refine wpAnyH_take (i := 6) (oi := { dst := some 70, op := Op.binOp BinOp.lss 3 (Operand.tmp 69) (Operand.const (Value.int IntKind.i64 0)) 3, type := 4, pos := _, after := #[{ on := 5, ground := Ground.data }, { on := 7, ground := Ground.gcOnly Departure.lateStores }], guard := none }) (v := _) rfl (by kernel_rfl) (by kernel_rfl) (by kernel_rfl) (fun _ _ _ h => h) (Or.inl ⟨by rfl, by (intro wS hSw; (try dsimp only at hSw); go_simp; try with_reducible rfl)⟩) (by assumption) ?_
          (try simp only [Act.put, List.setIfInBounds_toArray, List.set_cons_zero, List.set_cons_succ])
          refine wpAnyH_ready (rs := [7]) (by kernel_rfl) (by simp) ?_
          refine AllReadyH.cons (o := { dst := none, op := Op.store 42 (Operand.tmp 4) (Operand.tmp 64), type := 0, pos := _, after := #[{ on := 0, ground := Ground.data }, { on := 5, ground := Ground.chain }, { on := 0, ground := Ground.phase }, { on := 1, ground := Ground.textOnly Departure.lateStores }, { on := 2, ground := Ground.textOnly Departure.lateStores }, { on := 3, ground := Ground.textOnly Departure.lateStores }, { on := 4, ground := Ground.textOnly Departure.lateStores }, { on := 5, ground := Ground.textOnly Departure.lateStoresUnsure }, { on := 6, ground := Ground.textOnly Departure.lateStores }], guard := none }) rfl (fun K hK => ?_) AllReadyH.nil
          go_simp
          refine hK.out _ _ (by exact HFF.out _ (by refine Keep.drew ?_; repeat (first | with_reducible exact KR.out | with_reducible refine Keep.setS ?_ (by simp)))) (fun hHeld => ?_)
          clear hK K
          (try simp only [Act.put, List.setIfInBounds_toArray, List.set_cons_zero, List.set_cons_succ])
          refine wpAnyH_take (i := 8) (oi := { dst := some 5, op := Op.assign (Operand.tmp 70), type := 4, pos := _, after := #[{ on := 6, ground := Ground.data }, { on := 7, ground := Ground.chain }, { on := 0, ground := Ground.phase }, { on := 1, ground := Ground.phase }, { on := 2, ground := Ground.phase }, { on := 3, ground := Ground.phase }, { on := 4, ground := Ground.phase }, { on := 5, ground := Ground.phase }, { on := 6, ground := Ground.phase }, { on := 7, ground := Ground.phase }], guard := none }) (v := _) rfl (by kernel_rfl) (by kernel_rfl) (by kernel_rfl) (fun _ _ _ h => h) (Or.inl ⟨by rfl, by (intro wS hSw; (try dsimp only at hSw); go_simp; try with_reducible rfl)⟩) (by assumption) ?_
          (try simp only [Act.put, List.setIfInBounds_toArray, List.set_cons_zero, List.set_cons_succ])
          refine wpAnyH_take (i := 9) (oi := { dst := some 6, op := Op.assign (Operand.const (Value.int IntKind.i64 0)), type := 26, pos := _, after := #[{ on := 8, ground := Ground.chain }, { on := 0, ground := Ground.phase }, { on := 1, ground := Ground.phase }, { on := 2, ground := Ground.phase }, { on := 3, ground := Ground.phase }, { on := 4, ground := Ground.phase }, { on := 5, ground := Ground.phase }, { on := 6, ground := Ground.phase }, { on := 7, ground := Ground.phase }, { on := 8, ground := Ground.phase }], guard := none }) (v := _) rfl (by kernel_rfl) (by kernel_rfl) (by kernel_rfl) (fun _ _ _ h => h) (Or.inl ⟨by rfl, by (intro wS hSw; (try dsimp only at hSw); go_simp; try with_reducible rfl)⟩) (by assumption) ?_
          (try simp only [Act.put, List.setIfInBounds_toArray, List.set_cons_zero, List.set_cons_succ])
          refine wpAnyH_done (by kernel_rfl) ?_ _
          clear hHeld
          go_wp2_with fail
          refine bodyPost_ret (v := .tuple #[ragg s4 (some ⟨ga, 4, none⟩) n (c3 - 1) O m d, .bool (decide (zz < 0)), .int .i64 0]) (by simp [results, Try.results15, go_sem, x0, x1, x2, x3, x4, x5, x6, x7]) rfl ?_
          rw [HZB.out]
          rw [← HFIN.out]
          refine R4.out.fin rfl ?_ (by exact HGA.out)
          refine Keep.drew ?_
          repeat (first | with_reducible exact KR.out | with_reducible refine Keep.setS ?_ (by simp))
      · have HFIN : Hid ((⟨s1.most, s.L ++ [x], s1.c0, s1.c1, s1.c2, s1.c3, s1.c4, s1.off⟩ : St) = bump s k (keepL s x)) := Lib.hid (by rw [← HS1.out]; unfold keepL; rw [HMO.out, ← HNL.out, if_neg hcl]; rfl)
        go_wp2_with fail
        obtain ⟨s4, hs4⟩ : ∃ s4, (⟨s1.most, s.L ++ [x], s1.c0, s1.c1, s1.c2, s1.c3, s1.c4, s1.off⟩ : St) = s4 := ⟨_, rfl⟩
        rw [hs4] at R2 HFIN
        have HOF : Hid (s4.off = s.off) := Lib.hid (by rw [← hs4, ← HS1.out]; rfl)
        clear hs4 a0 a2
        have HFF : Hid (∀ F, Keep W3.heap.size [w.heap.size + 2] W3 F → (fun w' => (w'.cell? ⟨w.heap.size, 0, none⟩ = some (.int .i64 s4.most) ∧ w'.cell? ⟨w.heap.size, 1, none⟩ = some (.slice A3 (n + 1) c3) ∧ w'.cell? ⟨w.heap.size, 2, none⟩ = some (.slice O m d) ∧ w'.cell? ⟨w.heap.size, 3, none⟩ = some (.int .i64 s4.c0) ∧ w'.cell? ⟨w.heap.size, 4, none⟩ = some (.int .i64 s4.c1) ∧ w'.cell? ⟨w.heap.size, 5, none⟩ = some (.int .i64 s4.c2) ∧ w'.cell? ⟨w.heap.size, 6, none⟩ = some (.int .i64 s4.c3) ∧ w'.cell? ⟨w.heap.size, 7, none⟩ = some (.int .i64 s4.c4)) ∧ w'.cell? ⟨w.heap.size + 1, 1, none⟩ = some (.int .i64 x.id)) F) := Lib.hid (fun F k => by
          have hb := R2.out.blk.keepS k (by simp)
          have he := R2.out.box.keepS k (by simp)
          exact ⟨rcell8 hb, he.cell 1⟩)
        have HOV : Hid (Vw W3.drew O m 1 (nums s.off)) := Lib.hid (by have := R2.out.drew.rs.of; rw [HOF.out] at this; exact this)
        have KR : Hid (Keep W3.heap.size [w.heap.size + 2] W3 W3) := Lib.hid (Keep.refl _ _ _)
        have y0 : W3.frozen? ⟨w.heap.size + 1 + 1, 0, none⟩ = false := R2.out.zer.frozen 0
        have y1 : W3.frozen? ⟨w.heap.size + 1 + 1, 1, none⟩ = false := R2.out.zer.frozen 1
        have y2 : W3.frozen? ⟨w.heap.size + 1 + 1, 2, none⟩ = false := R2.out.zer.frozen 2
        have y3 : W3.frozen? ⟨w.heap.size + 1 + 1, 3, none⟩ = false := R2.out.zer.frozen 3
        have y4 : W3.frozen? ⟨w.heap.size + 1 + 1, 4, none⟩ = false := R2.out.zer.frozen 4
        have y5 : W3.frozen? ⟨w.heap.size + 1 + 1, 5, none⟩ = false := R2.out.zer.frozen 5
        have y6 : W3.frozen? ⟨w.heap.size + 1 + 1, 6, none⟩ = false := R2.out.zer.frozen 6
        have y7 : W3.frozen? ⟨w.heap.size + 1 + 1, 7, none⟩ = false := R2.out.zer.frozen 7
        have x0 : W3.cell? ⟨w.heap.size + 1 + 1, 0, none⟩ = some (.int .i64 0) := R2.out.zer.cell 0
        have x1 : W3.cell? ⟨w.heap.size + 1 + 1, 1, none⟩ = some (.slice none 0 0) := R2.out.zer.cell 1
        have x2 : W3.cell? ⟨w.heap.size + 1 + 1, 2, none⟩ = some (.slice none 0 0) := R2.out.zer.cell 2
        have x3 : W3.cell? ⟨w.heap.size + 1 + 1, 3, none⟩ = some (.int .i64 0) := R2.out.zer.cell 3
        have x4 : W3.cell? ⟨w.heap.size + 1 + 1, 4, none⟩ = some (.int .i64 0) := R2.out.zer.cell 4
        have x5 : W3.cell? ⟨w.heap.size + 1 + 1, 5, none⟩ = some (.int .i64 0) := R2.out.zer.cell 5
        have x6 : W3.cell? ⟨w.heap.size + 1 + 1, 6, none⟩ = some (.int .i64 0) := R2.out.zer.cell 6
        have x7 : W3.cell? ⟨w.heap.size + 1 + 1, 7, none⟩ = some (.int .i64 0) := R2.out.zer.cell 7
        refine wp_region_held_drew (S := (fun w' => (w'.cell? ⟨w.heap.size, 0, none⟩ = some (.int .i64 s4.most) ∧ w'.cell? ⟨w.heap.size, 1, none⟩ = some (.slice A3 (n + 1) c3) ∧ w'.cell? ⟨w.heap.size, 2, none⟩ = some (.slice O m d) ∧ w'.cell? ⟨w.heap.size, 3, none⟩ = some (.int .i64 s4.c0) ∧ w'.cell? ⟨w.heap.size, 4, none⟩ = some (.int .i64 s4.c1) ∧ w'.cell? ⟨w.heap.size, 5, none⟩ = some (.int .i64 s4.c2) ∧ w'.cell? ⟨w.heap.size, 6, none⟩ = some (.int .i64 s4.c3) ∧ w'.cell? ⟨w.heap.size, 7, none⟩ = some (.int .i64 s4.c4)) ∧ w'.cell? ⟨w.heap.size + 1, 1, none⟩ = some (.int .i64 x.id))) (by kernel_rfl) (by exact HFF.out _ KR.out.drew) (fun hHeld => ?_)
        refine wpAnyH_take (i := 0) (oi := { dst := some 64, op := Op.load 42 (Operand.tmp 2), type := 42, pos := _, after := #[], guard := none }) (v := _) rfl (by kernel_rfl) (by kernel_rfl) (by kernel_rfl) (fun _ _ _ h => h) (Or.inl ⟨by rfl, by (intro wS hSw; (try dsimp only at hSw); go_simp; try with_reducible rfl)⟩) (by assumption) ?_
        (try simp only [Act.put, List.setIfInBounds_toArray, List.set_cons_zero, List.set_cons_succ])
        refine wpAnyH_take (i := 1) (oi := { dst := some 65, op := Op.fieldAddr 42 (Operand.tmp 2) 2, type := 0, pos := _, after := #[], guard := none }) (v := _) rfl (by kernel_rfl) (by kernel_rfl) (by kernel_rfl) (fun _ _ _ h => h) (Or.inl ⟨by rfl, by (intro wS hSw; (try dsimp only at hSw); go_simp; try with_reducible rfl)⟩) (by assumption) ?_
        (try simp only [Act.put, List.setIfInBounds_toArray, List.set_cons_zero, List.set_cons_succ])
        refine wpAnyH_take (i := 2) (oi := { dst := some 66, op := Op.load 39 (Operand.tmp 65), type := 39, pos := _, after := #[{ on := 1, ground := Ground.data }], guard := none }) (v := _) rfl (by kernel_rfl) (by kernel_rfl) (by kernel_rfl) (fun _ _ _ h => h) (Or.inl ⟨by rfl, by (intro wS hSw; (try dsimp only at hSw); go_simp; try with_reducible rfl)⟩) (by assumption) ?_
        (try simp only [Act.put, List.setIfInBounds_toArray, List.set_cons_zero, List.set_cons_succ])
        refine wpAnyH_take (i := 3) (oi := { dst := some 67, op := Op.fieldAddr 31 (Operand.tmp 3) 1, type := 0, pos := _, after := #[], guard := none }) (v := _) rfl (by kernel_rfl) (by kernel_rfl) (by kernel_rfl) (fun _ _ _ h => h) (Or.inl ⟨by rfl, by (intro wS hSw; (try dsimp only at hSw); go_simp; try with_reducible rfl)⟩) (by assumption) ?_
        (try simp only [Act.put, List.setIfInBounds_toArray, List.set_cons_zero, List.set_cons_succ])
        refine wpAnyH_take (i := 4) (oi := { dst := some 68, op := Op.load 3 (Operand.tmp 67), type := 3, pos := _, after := #[{ on := 3, ground := Ground.data }], guard := none }) (v := _) rfl (by kernel_rfl) (by kernel_rfl) (by kernel_rfl) (fun _ _ _ h => h) (Or.inl ⟨by rfl, by (intro wS hSw; (try dsimp only at hSw); go_simp; try with_reducible rfl)⟩) (by assumption) ?_
        (try simp only [Act.put, List.setIfInBounds_toArray, List.set_cons_zero, List.set_cons_succ])
        refine wpAnyH_ready (rs := [5]) (by kernel_rfl) (by simp) ?_
        refine AllReadyH.cons (o := { dst := some 69, op := Op.call { callee := Callee.value (Operand.func 22), args := #[Operand.tmp 66, Operand.tmp 68], argTypes := #[39, 3] }, type := 3, pos := _, after := #[{ on := 2, ground := Ground.data }, { on := 4, ground := Ground.data }], guard := none }) rfl (fun K hK => ?_) AllReadyH.nil
        go_simp
        refine (find_any _ O m d s.off x.id zz (by omega) hmd (by exact HOV.out) HZ.out).mono ?_
        rintro e w' ⟨rfl, rfl⟩
        refine hK.out _ _ (by exact HFF.out _ KR.out.drew) (fun hHeld => ?_)
        clear hK K
        (try simp only [Act.put, List.setIfInBounds_toArray, List.set_cons_zero, List.set_cons_succ])
        refine wpAnyH_take (i := 6) (oi := { dst := some 70, op := Op.binOp BinOp.lss 3 (Operand.tmp 69) (Operand.const (Value.int IntKind.i64 0)) 3, type := 4, pos := _, after := #[{ on := 5, ground := Ground.data }, { on := 7, ground := Ground.gcOnly Departure.lateStores }], guard := none }) (v := _) rfl (by kernel_rfl) (by kernel_rfl) (by kernel_rfl) (fun _ _ _ h => h) (Or.inl ⟨by rfl, by (intro wS hSw; (try dsimp only at hSw); go_simp; try with_reducible rfl)⟩) (by assumption) ?_
        (try simp only [Act.put, List.setIfInBounds_toArray, List.set_cons_zero, List.set_cons_succ])
        refine wpAnyH_ready (rs := [7]) (by kernel_rfl) (by simp) ?_
        refine AllReadyH.cons (o := { dst := none, op := Op.store 42 (Operand.tmp 4) (Operand.tmp 64), type := 0, pos := _, after := #[{ on := 0, ground := Ground.data }, { on := 5, ground := Ground.chain }, { on := 0, ground := Ground.phase }, { on := 1, ground := Ground.textOnly Departure.lateStores }, { on := 2, ground := Ground.textOnly Departure.lateStores }, { on := 3, ground := Ground.textOnly Departure.lateStores }, { on := 4, ground := Ground.textOnly Departure.lateStores }, { on := 5, ground := Ground.textOnly Departure.lateStoresUnsure }, { on := 6, ground := Ground.textOnly Departure.lateStores }], guard := none }) rfl (fun K hK => ?_) AllReadyH.nil
        go_simp
        refine hK.out _ _ (by exact HFF.out _ (by refine Keep.drew ?_; repeat (first | with_reducible exact KR.out | with_reducible refine Keep.setS ?_ (by simp)))) (fun hHeld => ?_)
        clear hK K
        (try simp only [Act.put, List.setIfInBounds_toArray, List.set_cons_zero, List.set_cons_succ])
        refine wpAnyH_take (i := 8) (oi := { dst := some 5, op := Op.assign (Operand.tmp 70), type := 4, pos := _, after := #[{ on := 6, ground := Ground.data }, { on := 7, ground := Ground.chain }, { on := 0, ground := Ground.phase }, { on := 1, ground := Ground.phase }, { on := 2, ground := Ground.phase }, { on := 3, ground := Ground.phase }, { on := 4, ground := Ground.phase }, { on := 5, ground := Ground.phase }, { on := 6, ground := Ground.phase }, { on := 7, ground := Ground.phase }], guard := none }) (v := _) rfl (by kernel_rfl) (by kernel_rfl) (by kernel_rfl) (fun _ _ _ h => h) (Or.inl ⟨by rfl, by (intro wS hSw; (try dsimp only at hSw); go_simp; try with_reducible rfl)⟩) (by assumption) ?_
        (try simp only [Act.put, List.setIfInBounds_toArray, List.set_cons_zero, List.set_cons_succ])
        refine wpAnyH_take (i := 9) (oi := { dst := some 6, op := Op.assign (Operand.const (Value.int IntKind.i64 0)), type := 26, pos := _, after := #[{ on := 8, ground := Ground.chain }, { on := 0, ground := Ground.phase }, { on := 1, ground := Ground.phase }, { on := 2, ground := Ground.phase }, { on := 3, ground := Ground.phase }, { on := 4, ground := Ground.phase }, { on := 5, ground := Ground.phase }, { on := 6, ground := Ground.phase }, { on := 7, ground := Ground.phase }, { on := 8, ground := Ground.phase }], guard := none }) (v := _) rfl (by kernel_rfl) (by kernel_rfl) (by kernel_rfl) (fun _ _ _ h => h) (Or.inl ⟨by rfl, by (intro wS hSw; (try dsimp only at hSw); go_simp; try with_reducible rfl)⟩) (by assumption) ?_
        (try simp only [Act.put, List.setIfInBounds_toArray, List.set_cons_zero, List.set_cons_succ])
        refine wpAnyH_done (by kernel_rfl) ?_ _
        clear hHeld
        go_wp2_with fail
        refine bodyPost_ret (v := .tuple #[ragg s4 A3 (n + 1) c3 O m d, .bool (decide (zz < 0)), .int .i64 0]) (by simp [results, Try.results15, go_sem, x0, x1, x2, x3, x4, x5, x6, x7]) rfl ?_
        rw [HZB.out]
        rw [← HFIN.out]
        refine R2.out.fin rfl ?_ (by exact HGA.out)
        refine Keep.drew ?_
        repeat (first | with_reducible exact KR.out | with_reducible refine Keep.setS ?_ (by simp))
    · go_simp
      obtain ⟨V5, hV⟩ : ∃ V, V = (V0.alloc (.cells (ebox x) 31)) := ⟨_, rfl⟩
      have KQV5 : Hid (Keep W1.heap.size [] W1 V5) := Lib.hid (by rw [hV]; exact (KQV0.out.alloc KQV0.out.size (.cells (ebox x) 31)))
      have B5 : Hid (Blk V5 V0.heap.size 31 (ebox x)) := Lib.hid (by rw [hV]; exact Blk.new V0 _ _)
      have S5 : Hid (Sl V5 31 4 (some ⟨W1.heap.size, 0, none⟩) 0 0 []) := Lib.hid (by rw [hV]; exact S0.out.alloc _)
      have N5 : Hid (∀ y, y ∈ blks (some ⟨W1.heap.size, 0, none⟩) → y ≠ V0.heap.size) := Lib.hid (fun y hy => by have := S0.out.blk hy; omega)
      rw [← hV]
      clear hV
      refine hK.out _ _ (fun _ => (by exact RC.out _ KQV5.out)) (fun hHeld => ?_)
      clear hK K
      replace hHeld := hHeld (by kernel_rfl)
      (try simp only [Act.put, List.setIfInBounds_toArray, List.set_cons_zero, List.set_cons_succ])
      refine anyZ.ready (rs := [3]) (by kernel_rfl) (by simp) ?_
      refine (AllZ.cons (o := { dst := some 49, op := Op.call { callee := Callee.builtin Builtin.append, args := #[Operand.tmp 46, Operand.tmp 48], argTypes := #[34, 34] }, type := 34, pos := _, after := #[{ on := 0, ground := Ground.data }, { on := 2, ground := Ground.data }], guard := none }) rfl (fun K hK => ?_) AllZ.nil)
      refine step_appV _ (by rfl) (.tmp 46) (.tmp 48) 34 (by rfl) 31 i0 _ 4 32 Try.underlying34 hi0' hz0 hz1 hz2 rfl (by omega) (some ⟨W1.heap.size, 0, none⟩) 0 0 [] (by rfl) (by exact S5.out) A n c (evs s.L) (by rfl) (by exact HV.out.keep0 KQV5.out) (ev_one _) (by omega) (by omega) ?_
      intro A2 c2 w2 hs3 hk3 hb3
      simp only [Nat.zero_add, List.nil_append] at hs3 ⊢
      have S2 := Lib.hid hs3
      have KQ2 : Hid (Keep W1.heap.size [] W1 w2) := Lib.hid (KQV5.out.chain (Nat.le_refl _) hk3 HA0.out)
      have HA2 : Hid (∀ y, y ∈ blks A2 → W1.heap.size ≤ y) := Lib.hid (fun y hy => by have := KQV5.out.size; rcases hb3 y hy with h | h; exact HA0.out y h; omega)
      have B2 := Lib.hid (B5.out.keepS hk3 (fun h => N5.out _ h rfl))
      have N2 : Hid (∀ y, y ∈ blks A2 → y ≠ V0.heap.size) := Lib.hid (fun y hy => by have := B5.out.lt; rcases hb3 y hy with h | h; exact N5.out y h; omega)
      clear hs3 hk3 hb3
      refine hK.out _ _ (fun _ => (by exact RC.out _ KQ2.out)) (fun hHeld => ?_)
      clear hK K
      replace hHeld := hHeld (by kernel_rfl)
      (try simp only [Act.put, List.setIfInBounds_toArray, List.set_cons_zero, List.set_cons_succ])
      refine anyZ.ready (rs := [6]) (by kernel_rfl) (by simp) ?_
      refine (AllZ.cons (o := { dst := some 52, op := Op.call { callee := Callee.builtin Builtin.append, args := #[Operand.tmp 49, Operand.tmp 51], argTypes := #[34, 34] }, type := 34, pos := _, after := #[{ on := 3, ground := Ground.data }, { on := 5, ground := Ground.data }, { on := 3, ground := Ground.chain }], guard := none }) rfl (fun K hK => ?_) AllZ.nil)
      refine step_app1 _ (by rfl) (.tmp 49) (.tmp 51) 34 (by rfl) 31 i0 _ 4 32 Try.underlying34 hi0' hz0 hz1 hz2 rfl (by omega) A2 n c2 (evs s.L) (by rfl) (by exact S2.out) _ _ _ (by rfl) (by exact B2.out) rfl rfl (by omega) (by omega) ?_
      intro A3 c3 w3 hs3 hk3 hb3
      have S3 : Hid (Sl w3 31 4 A3 (n + 1) c3 (evs (s.L ++ [x]))) := Lib.hid (by rw [evs_one]; exact hs3)
      have KQ3 : Hid (Keep W1.heap.size [] W1 w3) := Lib.hid (KQ2.out.chain (Nat.le_refl _) hk3 HA2.out)
      have HA3 : Hid (∀ y, y ∈ blks A3 → W1.heap.size ≤ y) := Lib.hid (fun y hy => by have := KQ2.out.size; rcases hb3 y hy with h | h; exact HA2.out y h; omega)
      have f3 := (R1.out.next KQ3.out).blk.frozen 1
      have c3' := (R1.out.next KQ3.out).cells
      clear hs3 hk3 hb3
      refine hK.out _ _ (fun _ => (by exact RC.out _ KQ3.out)) (fun hHeld => ?_)
      clear hK K
      replace hHeld := hHeld (by kernel_rfl)
      (try simp only [Act.put, List.setIfInBounds_toArray, List.set_cons_zero, List.set_cons_succ])
      refine anyZ.take (i := 7) (oi := { dst := some 53, op := Op.fieldAddr 42 (Operand.tmp 2) 1, type := 0, pos := _, after := #[{ on := 0, ground := Ground.phase }, { on := 1, ground := Ground.phase }, { on := 2, ground := Ground.phase }, { on := 3, ground := Ground.phase }, { on := 4, ground := Ground.phase }, { on := 5, ground := Ground.phase }, { on := 6, ground := Ground.phase }], guard := none }) (v := _) rfl (by kernel_rfl) (by kernel_rfl) (by kernel_rfl) (by kernel_rfl) (by kernel_rfl) (fun _ _ _ h => h) (Or.inl ⟨by rfl, by (intro wS hSw; (try dsimp only at hSw); go_simp; try with_reducible rfl)⟩) (by exact hHeld) ?_
      (try simp only [Act.put, List.setIfInBounds_toArray, List.set_cons_zero, List.set_cons_succ])
      refine anyZ.ready (rs := [8]) (by kernel_rfl) (by simp) ?_
      refine (AllZ.cons (o := { dst := none, op := Op.store 34 (Operand.tmp 53) (Operand.tmp 52), type := 0, pos := _, after := #[{ on := 7, ground := Ground.data }, { on := 6, ground := Ground.data }, { on := 6, ground := Ground.chain }, { on := 0, ground := Ground.phase }, { on := 1, ground := Ground.phase }, { on := 2, ground := Ground.phase }, { on := 3, ground := Ground.phase }, { on := 4, ground := Ground.phase }, { on := 5, ground := Ground.phase }, { on := 6, ground := Ground.phase }], guard := none }) rfl (fun K hK => ?_) AllZ.nil)
      go_simp
      refine hK.out _ _ (fun h => absurd h (by decide)) (fun hHeld => ?_)
      clear hK K
      (try simp only [Act.put, List.setIfInBounds_toArray, List.set_cons_zero, List.set_cons_succ])
      refine anyZ.done (by kernel_rfl) ?_ _
      clear hHeld
      have R2 := Lib.hid ((R1.out.next KQ3.out).row (S3.out.vw (by omega)) (by rw [HNL.out]; simp) (slcap S3.out).1 (slcap S3.out).2 (fun _ y hy => by have := HA3.out y hy; have := R1.out.zer.lt; omega))
      have HGA : Hid (∀ y, y ∈ blks A3 → w.heap.size ≤ y) := Lib.hid (fun y hy => Nat.le_trans R1.out.keep.size (HA3.out y hy))
      have HC3 := slcap S3.out
      have HF3 := S3.out.form
      obtain ⟨W3, hW3⟩ : ∃ W3, W3 = w3.setCell ⟨w.heap.size, 1, none⟩ (.slice A3 (n + 1) c3) := ⟨_, rfl⟩
      rw [← hW3] at R2 ⊢
      clear hW3 c1 f3 c3' KQ3 HA3 S3
      clear RC HV
      obtain ⟨mo, hmo⟩ : ∃ m, s.most = m := ⟨_, rfl⟩
      have a0 : W3.cell? ⟨w.heap.size, 0, none⟩ = some (.int .i64 mo) := by have h1 := R2.out.blk.cell 0; rw [← HS1.out] at h1; rw [← hmo]; exact h1
      have a2 : W3.cell? ⟨w.heap.size, 1, none⟩ = some (.slice A3 (n + 1) c3) := R2.out.blk.cell 1
      have HMO := Lib.hid hmo
      clear hmo
      by_cases hcl : mo < (n : Int) + 1
      · have HFIN : Hid ((⟨s1.most, (s.L ++ [x]).drop 1, s1.c0, s1.c1, s1.c2, s1.c3, s1.c4, s1.off⟩ : St) = bump s k (keepL s x)) := Lib.hid (by rw [← HS1.out]; unfold keepL; rw [HMO.out, ← HNL.out, if_pos hcl]; rfl)
        rcases HF3 with ⟨_, h0, _⟩ | ⟨ga, rfl, _, q1, q2⟩
        · omega
        obtain ⟨y, M, hyM⟩ : ∃ y M, s.L ++ [x] = y :: M := by cases hL : s.L with
          | nil => exact ⟨x, [], rfl⟩
          | cons a t => exact ⟨a, t ++ [x], rfl⟩
        have q3 : ((n : Int) + 1) ≤ (c3 : Int) := by omega
        have q4 : (c3 : Int) ≤ 9223372036854775807 := by unfold maxLen at q2; omega
        have HM : Hid (n = M.length ∧ (s.L ++ [x]).drop 1 = M) := Lib.hid ⟨by have h1 := congrArg List.length hyM; simp at h1; rw [HNL.out]; omega, by rw [hyM]; rfl⟩
        by_cases hq : c3 = 1
        · subst hq
          obtain rfl : n = 0 := by omega
          have HT : Hid (Vw W3 (some ⟨ga, 0, none⟩) 0 4 (evs M)) := Lib.hid (⟨by rw [evs_len, ← HM.out.1], fun h => absurd h (by omega)⟩)
          have R4 := Lib.hid (R2.out.row HT.out HM.out.1 (c2 := 0) (by omega) (by omega) (fun hn y hy => by have := R2.out.hA (by omega) y (by simpa [blks] using hy); exact this))
          have f2 := R2.out.blk.frozen 1
          rw [HM.out.2] at HFIN
          clear hyM HT
          go_wp2_with fail
          obtain ⟨s4, hs4⟩ : ∃ s4, (⟨s1.most, M, s1.c0, s1.c1, s1.c2, s1.c3, s1.c4, s1.off⟩ : St) = s4 := ⟨_, rfl⟩
          rw [hs4] at R4 HFIN
          have HOF : Hid (s4.off = s.off) := Lib.hid (by rw [← hs4, ← HS1.out]; rfl)
          clear hs4
          obtain ⟨W4, hW4⟩ : ∃ W4, W4 = W3.setCell ⟨w.heap.size, 1, none⟩ (.slice (some ⟨ga, 0, none⟩) 0 0) := ⟨_, rfl⟩
          rw [← hW4] at R4 ⊢
          clear hW4 a0 a2 f2
          have HFF : Hid (∀ F, Keep W4.heap.size [w.heap.size + 2] W4 F → (fun w' => (w'.cell? ⟨w.heap.size, 0, none⟩ = some (.int .i64 s4.most) ∧ w'.cell? ⟨w.heap.size, 1, none⟩ = some (.slice (some ⟨ga, 0, none⟩) 0 0) ∧ w'.cell? ⟨w.heap.size, 2, none⟩ = some (.slice O m d) ∧ w'.cell? ⟨w.heap.size, 3, none⟩ = some (.int .i64 s4.c0) ∧ w'.cell? ⟨w.heap.size, 4, none⟩ = some (.int .i64 s4.c1) ∧ w'.cell? ⟨w.heap.size, 5, none⟩ = some (.int .i64 s4.c2) ∧ w'.cell? ⟨w.heap.size, 6, none⟩ = some (.int .i64 s4.c3) ∧ w'.cell? ⟨w.heap.size, 7, none⟩ = some (.int .i64 s4.c4)) ∧ w'.cell? ⟨w.heap.size + 1, 1, none⟩ = some (.int .i64 x.id)) F) := Lib.hid (fun F k => by
            have hb := R4.out.blk.keepS k (by simp)
            have he := R4.out.box.keepS k (by simp)
            exact ⟨rcell8 hb, he.cell 1⟩)
          have HOV : Hid (Vw W4.drew O m 1 (nums s.off)) := Lib.hid (by have := R4.out.drew.rs.of; rw [HOF.out] at this; exact this)
          have KR : Hid (Keep W4.heap.size [w.heap.size + 2] W4 W4) := Lib.hid (Keep.refl _ _ _)
          have y0 : W4.frozen? ⟨w.heap.size + 1 + 1, 0, none⟩ = false := R4.out.zer.frozen 0
          have y1 : W4.frozen? ⟨w.heap.size + 1 + 1, 1, none⟩ = false := R4.out.zer.frozen 1
          have y2 : W4.frozen? ⟨w.heap.size + 1 + 1, 2, none⟩ = false := R4.out.zer.frozen 2
          have y3 : W4.frozen? ⟨w.heap.size + 1 + 1, 3, none⟩ = false := R4.out.zer.frozen 3
          have y4 : W4.frozen? ⟨w.heap.size + 1 + 1, 4, none⟩ = false := R4.out.zer.frozen 4
          have y5 : W4.frozen? ⟨w.heap.size + 1 + 1, 5, none⟩ = false := R4.out.zer.frozen 5
          have y6 : W4.frozen? ⟨w.heap.size + 1 + 1, 6, none⟩ = false := R4.out.zer.frozen 6
          have y7 : W4.frozen? ⟨w.heap.size + 1 + 1, 7, none⟩ = false := R4.out.zer.frozen 7
          have x0 : W4.cell? ⟨w.heap.size + 1 + 1, 0, none⟩ = some (.int .i64 0) := R4.out.zer.cell 0
          have x1 : W4.cell? ⟨w.heap.size + 1 + 1, 1, none⟩ = some (.slice none 0 0) := R4.out.zer.cell 1
          have x2 : W4.cell? ⟨w.heap.size + 1 + 1, 2, none⟩ = some (.slice none 0 0) := R4.out.zer.cell 2
          have x3 : W4.cell? ⟨w.heap.size + 1 + 1, 3, none⟩ = some (.int .i64 0) := R4.out.zer.cell 3
          have x4 : W4.cell? ⟨w.heap.size + 1 + 1, 4, none⟩ = some (.int .i64 0) := R4.out.zer.cell 4
          have x5 : W4.cell? ⟨w.heap.size + 1 + 1, 5, none⟩ = some (.int .i64 0) := R4.out.zer.cell 5
          have x6 : W4.cell? ⟨w.heap.size + 1 + 1, 6, none⟩ = some (.int .i64 0) := R4.out.zer.cell 6
          have x7 : W4.cell? ⟨w.heap.size + 1 + 1, 7, none⟩ = some (.int .i64 0) := R4.out.zer.cell 7
          refine wp_region_held_drew (S := (fun w' => (w'.cell? ⟨w.heap.size, 0, none⟩ = some (.int .i64 s4.most) ∧ w'.cell? ⟨w.heap.size, 1, none⟩ = some (.slice (some ⟨ga, 0, none⟩) 0 0) ∧ w'.cell? ⟨w.heap.size, 2, none⟩ = some (.slice O m d) ∧ w'.cell? ⟨w.heap.size, 3, none⟩ = some (.int .i64 s4.c0) ∧ w'.cell? ⟨w.heap.size, 4, none⟩ = some (.int .i64 s4.c1) ∧ w'.cell? ⟨w.heap.size, 5, none⟩ = some (.int .i64 s4.c2) ∧ w'.cell? ⟨w.heap.size, 6, none⟩ = some (.int .i64 s4.c3) ∧ w'.cell? ⟨w.heap.size, 7, none⟩ = some (.int .i64 s4.c4)) ∧ w'.cell? ⟨w.heap.size + 1, 1, none⟩ = some (.int .i64 x.id))) (by kernel_rfl) (by exact HFF.out _ KR.out.drew) (fun hHeld => ?_)
          refine wpAnyH_take (i := 0) (oi := { dst := some 64, op := Op.load 42 (Operand.tmp 2), type := 42, pos := _, after := #[], guard := none }) (v := _) rfl (by kernel_rfl) (by kernel_rfl) (by kernel_rfl) (fun _ _ _ h => h) (Or.inl ⟨by rfl, by (intro wS hSw; (try dsimp only at hSw); go_simp; try with_reducible rfl)⟩) (by assumption) ?_
          (try simp only [Act.put, List.setIfInBounds_toArray, List.set_cons_zero, List.set_cons_succ])
          refine wpAnyH_take (i := 1) (oi := { dst := some 65, op := Op.fieldAddr 42 (Operand.tmp 2) 2, type := 0, pos := _, after := #[], guard := none }) (v := _) rfl (by kernel_rfl) (by kernel_rfl) (by kernel_rfl) (fun _ _ _ h => h) (Or.inl ⟨by rfl, by (intro wS hSw; (try dsimp only at hSw); go_simp; try with_reducible rfl)⟩) (by assumption) ?_
          (try simp only [Act.put, List.setIfInBounds_toArray, List.set_cons_zero, List.set_cons_succ])
          refine wpAnyH_take (i := 2) (oi := { dst := some 66, op := Op.load 39 (Operand.tmp 65), type := 39, pos := _, after := #[{ on := 1, ground := Ground.data }], guard := none }) (v := _) rfl (by kernel_rfl) (by kernel_rfl) (by kernel_rfl) (fun _ _ _ h => h) (Or.inl ⟨by rfl, by (intro wS hSw; (try dsimp only at hSw); go_simp; try with_reducible rfl)⟩) (by assumption) ?_
          (try simp only [Act.put, List.setIfInBounds_toArray, List.set_cons_zero, List.set_cons_succ])
          refine wpAnyH_take (i := 3) (oi := { dst := some 67, op := Op.fieldAddr 31 (Operand.tmp 3) 1, type := 0, pos := _, after := #[], guard := none }) (v := _) rfl (by kernel_rfl) (by kernel_rfl) (by kernel_rfl) (fun _ _ _ h => h) (Or.inl ⟨by rfl, by (intro wS hSw; (try dsimp only at hSw); go_simp; try with_reducible rfl)⟩) (by assumption) ?_
          (try simp only [Act.put, List.setIfInBounds_toArray, List.set_cons_zero, List.set_cons_succ])
          refine wpAnyH_take (i := 4) (oi := { dst := some 68, op := Op.load 3 (Operand.tmp 67), type := 3, pos := _, after := #[{ on := 3, ground := Ground.data }], guard := none }) (v := _) rfl (by kernel_rfl) (by kernel_rfl) (by kernel_rfl) (fun _ _ _ h => h) (Or.inl ⟨by rfl, by (intro wS hSw; (try dsimp only at hSw); go_simp; try with_reducible rfl)⟩) (by assumption) ?_
          (try simp only [Act.put, List.setIfInBounds_toArray, List.set_cons_zero, List.set_cons_succ])
          refine wpAnyH_ready (rs := [5]) (by kernel_rfl) (by simp) ?_
          refine AllReadyH.cons (o := { dst := some 69, op := Op.call { callee := Callee.value (Operand.func 22), args := #[Operand.tmp 66, Operand.tmp 68], argTypes := #[39, 3] }, type := 3, pos := _, after := #[{ on := 2, ground := Ground.data }, { on := 4, ground := Ground.data }], guard := none }) rfl (fun K hK => ?_) AllReadyH.nil
          go_simp
          refine (find_any _ O m d s.off x.id zz (by omega) hmd (by exact HOV.out) HZ.out).mono ?_
          rintro e w' ⟨rfl, rfl⟩
          refine hK.out _ _ (by exact HFF.out _ KR.out.drew) (fun hHeld => ?_)
          clear hK K
          (try simp only [Act.put, List.setIfInBounds_toArray, List.set_cons_zero, List.set_cons_succ])
          refine wpAnyH_take (i := 6) (oi := { dst := some 70, op := Op.binOp BinOp.lss 3 (Operand.tmp 69) (Operand.const (Value.int IntKind.i64 0)) 3, type := 4, pos := _, after := #[{ on := 5, ground := Ground.data }, { on := 7, ground := Ground.gcOnly Departure.lateStores }], guard := none }) (v := _) rfl (by kernel_rfl) (by kernel_rfl) (by kernel_rfl) (fun _ _ _ h => h) (Or.inl ⟨by rfl, by (intro wS hSw; (try dsimp only at hSw); go_simp; try with_reducible rfl)⟩) (by assumption) ?_
          (try simp only [Act.put, List.setIfInBounds_toArray, List.set_cons_zero, List.set_cons_succ])
          refine wpAnyH_ready (rs := [7]) (by kernel_rfl) (by simp) ?_
          refine AllReadyH.cons (o := { dst := none, op := Op.store 42 (Operand.tmp 4) (Operand.tmp 64), type := 0, pos := _, after := #[{ on := 0, ground := Ground.data }, { on := 5, ground := Ground.chain }, { on := 0, ground := Ground.phase }, { on := 1, ground := Ground.textOnly Departure.lateStores }, { on := 2, ground := Ground.textOnly Departure.lateStores }, { on := 3, ground := Ground.textOnly Departure.lateStores }, { on := 4, ground := Ground.textOnly Departure.lateStores }, { on := 5, ground := Ground.textOnly Departure.lateStoresUnsure }, { on := 6, ground := Ground.textOnly Departure.lateStores }], guard := none }) rfl (fun K hK => ?_) AllReadyH.nil
          go_simp
          refine hK.out _ _ (by exact HFF.out _ (by refine Keep.drew ?_; repeat (first | with_reducible exact KR.out | with_reducible refine Keep.setS ?_ (by simp)))) (fun hHeld => ?_)
          clear hK K
          (try simp only [Act.put, List.setIfInBounds_toArray, List.set_cons_zero, List.set_cons_succ])
          refine wpAnyH_take (i := 8) (oi := { dst := some 5, op := Op.assign (Operand.tmp 70), type := 4, pos := _, after := #[{ on := 6, ground := Ground.data }, { on := 7, ground := Ground.chain }, { on := 0, ground := Ground.phase }, { on := 1, ground := Ground.phase }, { on := 2, ground := Ground.phase }, { on := 3, ground := Ground.phase }, { on := 4, ground := Ground.phase }, { on := 5, ground := Ground.phase }, { on := 6, ground := Ground.phase }, { on := 7, ground := Ground.phase }], guard := none }) (v := _) rfl (by kernel_rfl) (by kernel_rfl) (by kernel_rfl) (fun _ _ _ h => h) (Or.inl ⟨by rfl, by (intro wS hSw; (try dsimp only at hSw); go_simp; try with_reducible rfl)⟩) (by assumption) ?_
          (try simp only [Act.put, List.setIfInBounds_toArray, List.set_cons_zero, List.set_cons_succ])
          refine wpAnyH_take (i := 9) (oi := { dst := some 6, op := Op.assign (Operand.const (Value.int IntKind.i64 0)), type := 26, pos := _, after := #[{ on := 8, ground := Ground.chain }, { on := 0, ground := Ground.phase }, { on := 1, ground := Ground.phase }, { on := 2, ground := Ground.phase }, { on := 3, ground := Ground.phase }, { on := 4, ground := Ground.phase }, { on := 5, ground := Ground.phase }, { on := 6, ground := Ground.phase }, { on := 7, ground := Ground.phase }, { on := 8, ground := Ground.phase }], guard := none }) (v := _) rfl (by kernel_rfl) (by kernel_rfl) (by kernel_rfl) (fun _ _ _ h => h) (Or.inl ⟨by rfl, by (intro wS hSw; (try dsimp only at hSw); go_simp; try with_reducible rfl)⟩) (by assumption) ?_
          (try simp only [Act.put, List.setIfInBounds_toArray, List.set_cons_zero, List.set_cons_succ])
          refine wpAnyH_done (by kernel_rfl) ?_ _
          clear hHeld
          go_wp2_with fail
          refine bodyPost_ret (v := .tuple #[ragg s4 (some ⟨ga, 0, none⟩) 0 0 O m d, .bool (decide (zz < 0)), .int .i64 0]) (by simp [results, Try.results15, go_sem, x0, x1, x2, x3, x4, x5, x6, x7]) rfl ?_
          rw [HZB.out]
          rw [← HFIN.out]
          refine R4.out.fin rfl ?_ (by exact HGA.out)
          refine Keep.drew ?_
          repeat (first | with_reducible exact KR.out | with_reducible refine Keep.setS ?_ (by simp))
        · have q5 : (2 : Int) ≤ (c3 : Int) := by omega
          have HT : Hid (Vw W3 (some ⟨ga, 4, none⟩) n 4 (evs M)) := Lib.hid (by have h1 := vtail (y := y) (by have h1 := R2.out.rs.ev; simp only [hyM] at h1; exact h1); simpa using h1)
          have R4 := Lib.hid (R2.out.row HT.out HM.out.1 (c2 := c3 - 1) (by omega) (by omega) (fun hn y hy => by have := R2.out.hA (by omega) y (by simpa [blks] using hy); exact this))
          have f2 := R2.out.blk.frozen 1
          rw [HM.out.2] at HFIN
          clear hyM HT
          go_wp2_with fail
          obtain ⟨s4, hs4⟩ : ∃ s4, (⟨s1.most, M, s1.c0, s1.c1, s1.c2, s1.c3, s1.c4, s1.off⟩ : St) = s4 := ⟨_, rfl⟩
          rw [hs4] at R4 HFIN
          have HOF : Hid (s4.off = s.off) := Lib.hid (by rw [← hs4, ← HS1.out]; rfl)
          clear hs4
          obtain ⟨W4, hW4⟩ : ∃ W4, W4 = W3.setCell ⟨w.heap.size, 1, none⟩ (.slice (some ⟨ga, 4, none⟩) n (c3 - 1)) := ⟨_, rfl⟩
          rw [← hW4] at R4 ⊢
          clear hW4 a0 a2 f2
          have HFF : Hid (∀ F, Keep W4.heap.size [w.heap.size + 2] W4 F → (fun w' => (w'.cell? ⟨w.heap.size, 0, none⟩ = some (.int .i64 s4.most) ∧ w'.cell? ⟨w.heap.size, 1, none⟩ = some (.slice (some ⟨ga, 4, none⟩) n (c3 - 1)) ∧ w'.cell? ⟨w.heap.size, 2, none⟩ = some (.slice O m d) ∧ w'.cell? ⟨w.heap.size, 3, none⟩ = some (.int .i64 s4.c0) ∧ w'.cell? ⟨w.heap.size, 4, none⟩ = some (.int .i64 s4.c1) ∧ w'.cell? ⟨w.heap.size, 5, none⟩ = some (.int .i64 s4.c2) ∧ w'.cell? ⟨w.heap.size, 6, none⟩ = some (.int .i64 s4.c3) ∧ w'.cell? ⟨w.heap.size, 7, none⟩ = some (.int .i64 s4.c4)) ∧ w'.cell? ⟨w.heap.size + 1, 1, none⟩ = some (.int .i64 x.id)) F) := Lib.hid (fun F k => by
            have hb := R4.out.blk.keepS k (by simp)
            have he := R4.out.box.keepS k (by simp)
            exact ⟨rcell8 hb, he.cell 1⟩)
          have HOV : Hid (Vw W4.drew O m 1 (nums s.off)) := Lib.hid (by have := R4.out.drew.rs.of; rw [HOF.out] at this; exact this)
          have KR : Hid (Keep W4.heap.size [w.heap.size + 2] W4 W4) := Lib.hid (Keep.refl _ _ _)
          have y0 : W4.frozen? ⟨w.heap.size + 1 + 1, 0, none⟩ = false := R4.out.zer.frozen 0
          have y1 : W4.frozen? ⟨w.heap.size + 1 + 1, 1, none⟩ = false := R4.out.zer.frozen 1
          have y2 : W4.frozen? ⟨w.heap.size + 1 + 1, 2, none⟩ = false := R4.out.zer.frozen 2
          have y3 : W4.frozen? ⟨w.heap.size + 1 + 1, 3, none⟩ = false := R4.out.zer.frozen 3
          have y4 : W4.frozen? ⟨w.heap.size + 1 + 1, 4, none⟩ = false := R4.out.zer.frozen 4
          have y5 : W4.frozen? ⟨w.heap.size + 1 + 1, 5, none⟩ = false := R4.out.zer.frozen 5
          have y6 : W4.frozen? ⟨w.heap.size + 1 + 1, 6, none⟩ = false := R4.out.zer.frozen 6
          have y7 : W4.frozen? ⟨w.heap.size + 1 + 1, 7, none⟩ = false := R4.out.zer.frozen 7
          have x0 : W4.cell? ⟨w.heap.size + 1 + 1, 0, none⟩ = some (.int .i64 0) := R4.out.zer.cell 0
          have x1 : W4.cell? ⟨w.heap.size + 1 + 1, 1, none⟩ = some (.slice none 0 0) := R4.out.zer.cell 1
          have x2 : W4.cell? ⟨w.heap.size + 1 + 1, 2, none⟩ = some (.slice none 0 0) := R4.out.zer.cell 2
          have x3 : W4.cell? ⟨w.heap.size + 1 + 1, 3, none⟩ = some (.int .i64 0) := R4.out.zer.cell 3
          have x4 : W4.cell? ⟨w.heap.size + 1 + 1, 4, none⟩ = some (.int .i64 0) := R4.out.zer.cell 4
          have x5 : W4.cell? ⟨w.heap.size + 1 + 1, 5, none⟩ = some (.int .i64 0) := R4.out.zer.cell 5
          have x6 : W4.cell? ⟨w.heap.size + 1 + 1, 6, none⟩ = some (.int .i64 0) := R4.out.zer.cell 6
          have x7 : W4.cell? ⟨w.heap.size + 1 + 1, 7, none⟩ = some (.int .i64 0) := R4.out.zer.cell 7
          refine wp_region_held_drew (S := (fun w' => (w'.cell? ⟨w.heap.size, 0, none⟩ = some (.int .i64 s4.most) ∧ w'.cell? ⟨w.heap.size, 1, none⟩ = some (.slice (some ⟨ga, 4, none⟩) n (c3 - 1)) ∧ w'.cell? ⟨w.heap.size, 2, none⟩ = some (.slice O m d) ∧ w'.cell? ⟨w.heap.size, 3, none⟩ = some (.int .i64 s4.c0) ∧ w'.cell? ⟨w.heap.size, 4, none⟩ = some (.int .i64 s4.c1) ∧ w'.cell? ⟨w.heap.size, 5, none⟩ = some (.int .i64 s4.c2) ∧ w'.cell? ⟨w.heap.size, 6, none⟩ = some (.int .i64 s4.c3) ∧ w'.cell? ⟨w.heap.size, 7, none⟩ = some (.int .i64 s4.c4)) ∧ w'.cell? ⟨w.heap.size + 1, 1, none⟩ = some (.int .i64 x.id))) (by kernel_rfl) (by exact HFF.out _ KR.out.drew) (fun hHeld => ?_)
          refine wpAnyH_take (i := 0) (oi := { dst := some 64, op := Op.load 42 (Operand.tmp 2), type := 42, pos := _, after := #[], guard := none }) (v := _) rfl (by kernel_rfl) (by kernel_rfl) (by kernel_rfl) (fun _ _ _ h => h) (Or.inl ⟨by rfl, by (intro wS hSw; (try dsimp only at hSw); go_simp; try with_reducible rfl)⟩) (by assumption) ?_
          (try simp only [Act.put, List.setIfInBounds_toArray, List.set_cons_zero, List.set_cons_succ])
          refine wpAnyH_take (i := 1) (oi := { dst := some 65, op := Op.fieldAddr 42 (Operand.tmp 2) 2, type := 0, pos := _, after := #[], guard := none }) (v := _) rfl (by kernel_rfl) (by kernel_rfl) (by kernel_rfl) (fun _ _ _ h => h) (Or.inl ⟨by rfl, by (intro wS hSw; (try dsimp only at hSw); go_simp; try with_reducible rfl)⟩) (by assumption) ?_
          (try simp only [Act.put, List.setIfInBounds_toArray, List.set_cons_zero, List.set_cons_succ])
          refine wpAnyH_take (i := 2) (oi := { dst := some 66, op := Op.load 39 (Operand.tmp 65), type := 39, pos := _, after := #[{ on := 1, ground := Ground.data }], guard := none }) (v := _) rfl (by kernel_rfl) (by kernel_rfl) (by kernel_rfl) (fun _ _ _ h => h) (Or.inl ⟨by rfl, by (intro wS hSw; (try dsimp only at hSw); go_simp; try with_reducible rfl)⟩) (by assumption) ?_
          (try simp only [Act.put, List.setIfInBounds_toArray, List.set_cons_zero, List.set_cons_succ])
          refine wpAnyH_take (i := 3) (oi := { dst := some 67, op := Op.fieldAddr 31 (Operand.tmp 3) 1, type := 0, pos := _, after := #[], guard := none }) (v := _) rfl (by kernel_rfl) (by kernel_rfl) (by kernel_rfl) (fun _ _ _ h => h) (Or.inl ⟨by rfl, by (intro wS hSw; (try dsimp only at hSw); go_simp; try with_reducible rfl)⟩) (by assumption) ?_
          (try simp only [Act.put, List.setIfInBounds_toArray, List.set_cons_zero, List.set_cons_succ])
          refine wpAnyH_take (i := 4) (oi := { dst := some 68, op := Op.load 3 (Operand.tmp 67), type := 3, pos := _, after := #[{ on := 3, ground := Ground.data }], guard := none }) (v := _) rfl (by kernel_rfl) (by kernel_rfl) (by kernel_rfl) (fun _ _ _ h => h) (Or.inl ⟨by rfl, by (intro wS hSw; (try dsimp only at hSw); go_simp; try with_reducible rfl)⟩) (by assumption) ?_
          (try simp only [Act.put, List.setIfInBounds_toArray, List.set_cons_zero, List.set_cons_succ])
          refine wpAnyH_ready (rs := [5]) (by kernel_rfl) (by simp) ?_
          refine AllReadyH.cons (o := { dst := some 69, op := Op.call { callee := Callee.value (Operand.func 22), args := #[Operand.tmp 66, Operand.tmp 68], argTypes := #[39, 3] }, type := 3, pos := _, after := #[{ on := 2, ground := Ground.data }, { on := 4, ground := Ground.data }], guard := none }) rfl (fun K hK => ?_) AllReadyH.nil
          go_simp
          refine (find_any _ O m d s.off x.id zz (by omega) hmd (by exact HOV.out) HZ.out).mono ?_
          rintro e w' ⟨rfl, rfl⟩
          refine hK.out _ _ (by exact HFF.out _ KR.out.drew) (fun hHeld => ?_)
          clear hK K
          (try simp only [Act.put, List.setIfInBounds_toArray, List.set_cons_zero, List.set_cons_succ])
          refine wpAnyH_take (i := 6) (oi := { dst := some 70, op := Op.binOp BinOp.lss 3 (Operand.tmp 69) (Operand.const (Value.int IntKind.i64 0)) 3, type := 4, pos := _, after := #[{ on := 5, ground := Ground.data }, { on := 7, ground := Ground.gcOnly Departure.lateStores }], guard := none }) (v := _) rfl (by kernel_rfl) (by kernel_rfl) (by kernel_rfl) (fun _ _ _ h => h) (Or.inl ⟨by rfl, by (intro wS hSw; (try dsimp only at hSw); go_simp; try with_reducible rfl)⟩) (by assumption) ?_
          (try simp only [Act.put, List.setIfInBounds_toArray, List.set_cons_zero, List.set_cons_succ])
          refine wpAnyH_ready (rs := [7]) (by kernel_rfl) (by simp) ?_
          refine AllReadyH.cons (o := { dst := none, op := Op.store 42 (Operand.tmp 4) (Operand.tmp 64), type := 0, pos := _, after := #[{ on := 0, ground := Ground.data }, { on := 5, ground := Ground.chain }, { on := 0, ground := Ground.phase }, { on := 1, ground := Ground.textOnly Departure.lateStores }, { on := 2, ground := Ground.textOnly Departure.lateStores }, { on := 3, ground := Ground.textOnly Departure.lateStores }, { on := 4, ground := Ground.textOnly Departure.lateStores }, { on := 5, ground := Ground.textOnly Departure.lateStoresUnsure }, { on := 6, ground := Ground.textOnly Departure.lateStores }], guard := none }) rfl (fun K hK => ?_) AllReadyH.nil
          go_simp
          refine hK.out _ _ (by exact HFF.out _ (by refine Keep.drew ?_; repeat (first | with_reducible exact KR.out | with_reducible refine Keep.setS ?_ (by simp)))) (fun hHeld => ?_)
          clear hK K
          (try simp only [Act.put, List.setIfInBounds_toArray, List.set_cons_zero, List.set_cons_succ])
          refine wpAnyH_take (i := 8) (oi := { dst := some 5, op := Op.assign (Operand.tmp 70), type := 4, pos := _, after := #[{ on := 6, ground := Ground.data }, { on := 7, ground := Ground.chain }, { on := 0, ground := Ground.phase }, { on := 1, ground := Ground.phase }, { on := 2, ground := Ground.phase }, { on := 3, ground := Ground.phase }, { on := 4, ground := Ground.phase }, { on := 5, ground := Ground.phase }, { on := 6, ground := Ground.phase }, { on := 7, ground := Ground.phase }], guard := none }) (v := _) rfl (by kernel_rfl) (by kernel_rfl) (by kernel_rfl) (fun _ _ _ h => h) (Or.inl ⟨by rfl, by (intro wS hSw; (try dsimp only at hSw); go_simp; try with_reducible rfl)⟩) (by assumption) ?_
          (try simp only [Act.put, List.setIfInBounds_toArray, List.set_cons_zero, List.set_cons_succ])
          refine wpAnyH_take (i := 9) (oi := { dst := some 6, op := Op.assign (Operand.const (Value.int IntKind.i64 0)), type := 26, pos := _, after := #[{ on := 8, ground := Ground.chain }, { on := 0, ground := Ground.phase }, { on := 1, ground := Ground.phase }, { on := 2, ground := Ground.phase }, { on := 3, ground := Ground.phase }, { on := 4, ground := Ground.phase }, { on := 5, ground := Ground.phase }, { on := 6, ground := Ground.phase }, { on := 7, ground := Ground.phase }, { on := 8, ground := Ground.phase }], guard := none }) (v := _) rfl (by kernel_rfl) (by kernel_rfl) (by kernel_rfl) (fun _ _ _ h => h) (Or.inl ⟨by rfl, by (intro wS hSw; (try dsimp only at hSw); go_simp; try with_reducible rfl)⟩) (by assumption) ?_
          (try simp only [Act.put, List.setIfInBounds_toArray, List.set_cons_zero, List.set_cons_succ])
          refine wpAnyH_done (by kernel_rfl) ?_ _
          clear hHeld
          go_wp2_with fail
          refine bodyPost_ret (v := .tuple #[ragg s4 (some ⟨ga, 4, none⟩) n (c3 - 1) O m d, .bool (decide (zz < 0)), .int .i64 0]) (by simp [results, Try.results15, go_sem, x0, x1, x2, x3, x4, x5, x6, x7]) rfl ?_
          rw [HZB.out]
          rw [← HFIN.out]
          refine R4.out.fin rfl ?_ (by exact HGA.out)
          refine Keep.drew ?_
          repeat (first | with_reducible exact KR.out | with_reducible refine Keep.setS ?_ (by simp))
      · have HFIN : Hid ((⟨s1.most, s.L ++ [x], s1.c0, s1.c1, s1.c2, s1.c3, s1.c4, s1.off⟩ : St) = bump s k (keepL s x)) := Lib.hid (by rw [← HS1.out]; unfold keepL; rw [HMO.out, ← HNL.out, if_neg hcl]; rfl)
        go_wp2_with fail
        obtain ⟨s4, hs4⟩ : ∃ s4, (⟨s1.most, s.L ++ [x], s1.c0, s1.c1, s1.c2, s1.c3, s1.c4, s1.off⟩ : St) = s4 := ⟨_, rfl⟩
        rw [hs4] at R2 HFIN
        have HOF : Hid (s4.off = s.off) := Lib.hid (by rw [← hs4, ← HS1.out]; rfl)
        clear hs4 a0 a2
        have HFF : Hid (∀ F, Keep W3.heap.size [w.heap.size + 2] W3 F → (fun w' => (w'.cell? ⟨w.heap.size, 0, none⟩ = some (.int .i64 s4.most) ∧ w'.cell? ⟨w.heap.size, 1, none⟩ = some (.slice A3 (n + 1) c3) ∧ w'.cell? ⟨w.heap.size, 2, none⟩ = some (.slice O m d) ∧ w'.cell? ⟨w.heap.size, 3, none⟩ = some (.int .i64 s4.c0) ∧ w'.cell? ⟨w.heap.size, 4, none⟩ = some (.int .i64 s4.c1) ∧ w'.cell? ⟨w.heap.size, 5, none⟩ = some (.int .i64 s4.c2) ∧ w'.cell? ⟨w.heap.size, 6, none⟩ = some (.int .i64 s4.c3) ∧ w'.cell? ⟨w.heap.size, 7, none⟩ = some (.int .i64 s4.c4)) ∧ w'.cell? ⟨w.heap.size + 1, 1, none⟩ = some (.int .i64 x.id)) F) := Lib.hid (fun F k => by
          have hb := R2.out.blk.keepS k (by simp)
          have he := R2.out.box.keepS k (by simp)
          exact ⟨rcell8 hb, he.cell 1⟩)
        have HOV : Hid (Vw W3.drew O m 1 (nums s.off)) := Lib.hid (by have := R2.out.drew.rs.of; rw [HOF.out] at this; exact this)
        have KR : Hid (Keep W3.heap.size [w.heap.size + 2] W3 W3) := Lib.hid (Keep.refl _ _ _)
        have y0 : W3.frozen? ⟨w.heap.size + 1 + 1, 0, none⟩ = false := R2.out.zer.frozen 0
        have y1 : W3.frozen? ⟨w.heap.size + 1 + 1, 1, none⟩ = false := R2.out.zer.frozen 1
        have y2 : W3.frozen? ⟨w.heap.size + 1 + 1, 2, none⟩ = false := R2.out.zer.frozen 2
        have y3 : W3.frozen? ⟨w.heap.size + 1 + 1, 3, none⟩ = false := R2.out.zer.frozen 3
        have y4 : W3.frozen? ⟨w.heap.size + 1 + 1, 4, none⟩ = false := R2.out.zer.frozen 4
        have y5 : W3.frozen? ⟨w.heap.size + 1 + 1, 5, none⟩ = false := R2.out.zer.frozen 5
        have y6 : W3.frozen? ⟨w.heap.size + 1 + 1, 6, none⟩ = false := R2.out.zer.frozen 6
        have y7 : W3.frozen? ⟨w.heap.size + 1 + 1, 7, none⟩ = false := R2.out.zer.frozen 7
        have x0 : W3.cell? ⟨w.heap.size + 1 + 1, 0, none⟩ = some (.int .i64 0) := R2.out.zer.cell 0
        have x1 : W3.cell? ⟨w.heap.size + 1 + 1, 1, none⟩ = some (.slice none 0 0) := R2.out.zer.cell 1
        have x2 : W3.cell? ⟨w.heap.size + 1 + 1, 2, none⟩ = some (.slice none 0 0) := R2.out.zer.cell 2
        have x3 : W3.cell? ⟨w.heap.size + 1 + 1, 3, none⟩ = some (.int .i64 0) := R2.out.zer.cell 3
        have x4 : W3.cell? ⟨w.heap.size + 1 + 1, 4, none⟩ = some (.int .i64 0) := R2.out.zer.cell 4
        have x5 : W3.cell? ⟨w.heap.size + 1 + 1, 5, none⟩ = some (.int .i64 0) := R2.out.zer.cell 5
        have x6 : W3.cell? ⟨w.heap.size + 1 + 1, 6, none⟩ = some (.int .i64 0) := R2.out.zer.cell 6
        have x7 : W3.cell? ⟨w.heap.size + 1 + 1, 7, none⟩ = some (.int .i64 0) := R2.out.zer.cell 7
        refine wp_region_held_drew (S := (fun w' => (w'.cell? ⟨w.heap.size, 0, none⟩ = some (.int .i64 s4.most) ∧ w'.cell? ⟨w.heap.size, 1, none⟩ = some (.slice A3 (n + 1) c3) ∧ w'.cell? ⟨w.heap.size, 2, none⟩ = some (.slice O m d) ∧ w'.cell? ⟨w.heap.size, 3, none⟩ = some (.int .i64 s4.c0) ∧ w'.cell? ⟨w.heap.size, 4, none⟩ = some (.int .i64 s4.c1) ∧ w'.cell? ⟨w.heap.size, 5, none⟩ = some (.int .i64 s4.c2) ∧ w'.cell? ⟨w.heap.size, 6, none⟩ = some (.int .i64 s4.c3) ∧ w'.cell? ⟨w.heap.size, 7, none⟩ = some (.int .i64 s4.c4)) ∧ w'.cell? ⟨w.heap.size + 1, 1, none⟩ = some (.int .i64 x.id))) (by kernel_rfl) (by exact HFF.out _ KR.out.drew) (fun hHeld => ?_)
        refine wpAnyH_take (i := 0) (oi := { dst := some 64, op := Op.load 42 (Operand.tmp 2), type := 42, pos := _, after := #[], guard := none }) (v := _) rfl (by kernel_rfl) (by kernel_rfl) (by kernel_rfl) (fun _ _ _ h => h) (Or.inl ⟨by rfl, by (intro wS hSw; (try dsimp only at hSw); go_simp; try with_reducible rfl)⟩) (by assumption) ?_
        (try simp only [Act.put, List.setIfInBounds_toArray, List.set_cons_zero, List.set_cons_succ])
        refine wpAnyH_take (i := 1) (oi := { dst := some 65, op := Op.fieldAddr 42 (Operand.tmp 2) 2, type := 0, pos := _, after := #[], guard := none }) (v := _) rfl (by kernel_rfl) (by kernel_rfl) (by kernel_rfl) (fun _ _ _ h => h) (Or.inl ⟨by rfl, by (intro wS hSw; (try dsimp only at hSw); go_simp; try with_reducible rfl)⟩) (by assumption) ?_
        (try simp only [Act.put, List.setIfInBounds_toArray, List.set_cons_zero, List.set_cons_succ])
        refine wpAnyH_take (i := 2) (oi := { dst := some 66, op := Op.load 39 (Operand.tmp 65), type := 39, pos := _, after := #[{ on := 1, ground := Ground.data }], guard := none }) (v := _) rfl (by kernel_rfl) (by kernel_rfl) (by kernel_rfl) (fun _ _ _ h => h) (Or.inl ⟨by rfl, by (intro wS hSw; (try dsimp only at hSw); go_simp; try with_reducible rfl)⟩) (by assumption) ?_
        (try simp only [Act.put, List.setIfInBounds_toArray, List.set_cons_zero, List.set_cons_succ])
        refine wpAnyH_take (i := 3) (oi := { dst := some 67, op := Op.fieldAddr 31 (Operand.tmp 3) 1, type := 0, pos := _, after := #[], guard := none }) (v := _) rfl (by kernel_rfl) (by kernel_rfl) (by kernel_rfl) (fun _ _ _ h => h) (Or.inl ⟨by rfl, by (intro wS hSw; (try dsimp only at hSw); go_simp; try with_reducible rfl)⟩) (by assumption) ?_
        (try simp only [Act.put, List.setIfInBounds_toArray, List.set_cons_zero, List.set_cons_succ])
        refine wpAnyH_take (i := 4) (oi := { dst := some 68, op := Op.load 3 (Operand.tmp 67), type := 3, pos := _, after := #[{ on := 3, ground := Ground.data }], guard := none }) (v := _) rfl (by kernel_rfl) (by kernel_rfl) (by kernel_rfl) (fun _ _ _ h => h) (Or.inl ⟨by rfl, by (intro wS hSw; (try dsimp only at hSw); go_simp; try with_reducible rfl)⟩) (by assumption) ?_
        (try simp only [Act.put, List.setIfInBounds_toArray, List.set_cons_zero, List.set_cons_succ])
        refine wpAnyH_ready (rs := [5]) (by kernel_rfl) (by simp) ?_
        refine AllReadyH.cons (o := { dst := some 69, op := Op.call { callee := Callee.value (Operand.func 22), args := #[Operand.tmp 66, Operand.tmp 68], argTypes := #[39, 3] }, type := 3, pos := _, after := #[{ on := 2, ground := Ground.data }, { on := 4, ground := Ground.data }], guard := none }) rfl (fun K hK => ?_) AllReadyH.nil
        go_simp
        refine (find_any _ O m d s.off x.id zz (by omega) hmd (by exact HOV.out) HZ.out).mono ?_
        rintro e w' ⟨rfl, rfl⟩
        refine hK.out _ _ (by exact HFF.out _ KR.out.drew) (fun hHeld => ?_)
        clear hK K
        (try simp only [Act.put, List.setIfInBounds_toArray, List.set_cons_zero, List.set_cons_succ])
        refine wpAnyH_take (i := 6) (oi := { dst := some 70, op := Op.binOp BinOp.lss 3 (Operand.tmp 69) (Operand.const (Value.int IntKind.i64 0)) 3, type := 4, pos := _, after := #[{ on := 5, ground := Ground.data }, { on := 7, ground := Ground.gcOnly Departure.lateStores }], guard := none }) (v := _) rfl (by kernel_rfl) (by kernel_rfl) (by kernel_rfl) (fun _ _ _ h => h) (Or.inl ⟨by rfl, by (intro wS hSw; (try dsimp only at hSw); go_simp; try with_reducible rfl)⟩) (by assumption) ?_
        (try simp only [Act.put, List.setIfInBounds_toArray, List.set_cons_zero, List.set_cons_succ])
        refine wpAnyH_ready (rs := [7]) (by kernel_rfl) (by simp) ?_
        refine AllReadyH.cons (o := { dst := none, op := Op.store 42 (Operand.tmp 4) (Operand.tmp 64), type := 0, pos := _, after := #[{ on := 0, ground := Ground.data }, { on := 5, ground := Ground.chain }, { on := 0, ground := Ground.phase }, { on := 1, ground := Ground.textOnly Departure.lateStores }, { on := 2, ground := Ground.textOnly Departure.lateStores }, { on := 3, ground := Ground.textOnly Departure.lateStores }, { on := 4, ground := Ground.textOnly Departure.lateStores }, { on := 5, ground := Ground.textOnly Departure.lateStoresUnsure }, { on := 6, ground := Ground.textOnly Departure.lateStores }], guard := none }) rfl (fun K hK => ?_) AllReadyH.nil
        go_simp
        refine hK.out _ _ (by exact HFF.out _ (by refine Keep.drew ?_; repeat (first | with_reducible exact KR.out | with_reducible refine Keep.setS ?_ (by simp)))) (fun hHeld => ?_)
        clear hK K
        (try simp only [Act.put, List.setIfInBounds_toArray, List.set_cons_zero, List.set_cons_succ])
        refine wpAnyH_take (i := 8) (oi := { dst := some 5, op := Op.assign (Operand.tmp 70), type := 4, pos := _, after := #[{ on := 6, ground := Ground.data }, { on := 7, ground := Ground.chain }, { on := 0, ground := Ground.phase }, { on := 1, ground := Ground.phase }, { on := 2, ground := Ground.phase }, { on := 3, ground := Ground.phase }, { on := 4, ground := Ground.phase }, { on := 5, ground := Ground.phase }, { on := 6, ground := Ground.phase }, { on := 7, ground := Ground.phase }], guard := none }) (v := _) rfl (by kernel_rfl) (by kernel_rfl) (by kernel_rfl) (fun _ _ _ h => h) (Or.inl ⟨by rfl, by (intro wS hSw; (try dsimp only at hSw); go_simp; try with_reducible rfl)⟩) (by assumption) ?_
        (try simp only [Act.put, List.setIfInBounds_toArray, List.set_cons_zero, List.set_cons_succ])
        refine wpAnyH_take (i := 9) (oi := { dst := some 6, op := Op.assign (Operand.const (Value.int IntKind.i64 0)), type := 26, pos := _, after := #[{ on := 8, ground := Ground.chain }, { on := 0, ground := Ground.phase }, { on := 1, ground := Ground.phase }, { on := 2, ground := Ground.phase }, { on := 3, ground := Ground.phase }, { on := 4, ground := Ground.phase }, { on := 5, ground := Ground.phase }, { on := 6, ground := Ground.phase }, { on := 7, ground := Ground.phase }, { on := 8, ground := Ground.phase }], guard := none }) (v := _) rfl (by kernel_rfl) (by kernel_rfl) (by kernel_rfl) (fun _ _ _ h => h) (Or.inl ⟨by rfl, by (intro wS hSw; (try dsimp only at hSw); go_simp; try with_reducible rfl)⟩) (by assumption) ?_
        (try simp only [Act.put, List.setIfInBounds_toArray, List.set_cons_zero, List.set_cons_succ])
        refine wpAnyH_done (by kernel_rfl) ?_ _
        clear hHeld
        go_wp2_with fail
        refine bodyPost_ret (v := .tuple #[ragg s4 A3 (n + 1) c3 O m d, .bool (decide (zz < 0)), .int .i64 0]) (by simp [results, Try.results15, go_sem, x0, x1, x2, x3, x4, x5, x6, x7]) rfl ?_
        rw [HZB.out]
        rw [← HFIN.out]
        refine R2.out.fin rfl ?_ (by exact HGA.out)
        refine Keep.drew ?_
        repeat (first | with_reducible exact KR.out | with_reducible refine Keep.setS ?_ (by simp))
  · go_simp
    obtain ⟨V5, hV⟩ : ∃ V, V = (W1.alloc (.cells (ebox x) 31)).drew := ⟨_, rfl⟩
    have KQV5 : Hid (Keep W1.heap.size [] W1 V5) := Lib.hid (by rw [hV]; exact (KQ0.out.alloc KQ0.out.size (.cells (ebox x) 31)).drew)
    have B5 : Hid (Blk V5 W1.heap.size 31 (ebox x)) := Lib.hid (by rw [hV]; exact Blk.new W1 _ _)
    rw [← hV]
    clear hV
    refine hK.out _ _ (fun _ => (by exact RC.out _ KQV5.out)) (fun hHeld => ?_)
    clear hK K
    replace hHeld := hHeld (by kernel_rfl)
    (try simp only [Act.put, List.setIfInBounds_toArray, List.set_cons_zero, List.set_cons_succ])
    refine anyZ.ready (rs := [0]) (by kernel_rfl) (by simp) ?_
    refine (AllZ.cons (o := { dst := some 46, op := Op.buildSlice 34 0 #[], type := 34, pos := _, after := #[], guard := none }) rfl (fun K hK => ?_) AllZ.nil)
    go_simp
    obtain ⟨V0, hV⟩ : ∃ V, V = (V5.alloc (.cells #[] 31)) := ⟨_, rfl⟩
    have KQV0 : Hid (Keep W1.heap.size [] W1 V0) := Lib.hid (by rw [hV]; exact (KQV5.out.alloc KQV5.out.size (.cells #[] 31)))
    have S0 : Hid (Sl V0 31 4 (some ⟨V5.heap.size, 0, none⟩) 0 0 []) := Lib.hid (by rw [hV]; exact World.ownsRow_made V5 #[] 0 (Nat.zero_le _) (by unfold maxLen; omega) rfl)
    have HA0 : Hid (∀ y, y ∈ blks (some ⟨V5.heap.size, 0, none⟩) → W1.heap.size ≤ y) := Lib.hid (fun y hy => by rcases List.mem_singleton.1 hy with rfl; exact KQV5.out.size)
    have B0 : Hid (Blk V0 W1.heap.size 31 (ebox x)) := Lib.hid (by rw [hV]; exact B5.out.alloc _)
    have N0 : Hid (∀ y, y ∈ blks (some ⟨V5.heap.size, 0, none⟩) → y ≠ W1.heap.size) := Lib.hid (fun y hy => by have hy' : y = V5.heap.size := (by simpa [blks] using hy); have := B5.out.lt; omega)
    rw [← hV]
    clear hV
    refine hK.out _ _ (fun _ => (by exact RC.out _ KQV0.out)) (fun hHeld => ?_)
    clear hK K
    replace hHeld := hHeld (by kernel_rfl)
    (try simp only [Act.put, List.setIfInBounds_toArray, List.set_cons_zero, List.set_cons_succ])
    refine anyZ.ready (rs := [3]) (by kernel_rfl) (by simp) ?_
    refine (AllZ.cons (o := { dst := some 49, op := Op.call { callee := Callee.builtin Builtin.append, args := #[Operand.tmp 46, Operand.tmp 48], argTypes := #[34, 34] }, type := 34, pos := _, after := #[{ on := 0, ground := Ground.data }, { on := 2, ground := Ground.data }], guard := none }) rfl (fun K hK => ?_) AllZ.nil)
    refine step_appV _ (by rfl) (.tmp 46) (.tmp 48) 34 (by rfl) 31 i0 _ 4 32 Try.underlying34 hi0' hz0 hz1 hz2 rfl (by omega) (some ⟨V5.heap.size, 0, none⟩) 0 0 [] (by rfl) (by exact S0.out) A n c (evs s.L) (by rfl) (by exact HV.out.keep0 KQV0.out) (ev_one _) (by omega) (by omega) ?_
    intro A2 c2 w2 hs3 hk3 hb3
    simp only [Nat.zero_add, List.nil_append] at hs3 ⊢
    have S2 := Lib.hid hs3
    have KQ2 : Hid (Keep W1.heap.size [] W1 w2) := Lib.hid (KQV0.out.chain (Nat.le_refl _) hk3 HA0.out)
    have HA2 : Hid (∀ y, y ∈ blks A2 → W1.heap.size ≤ y) := Lib.hid (fun y hy => by have := KQV0.out.size; rcases hb3 y hy with h | h; exact HA0.out y h; omega)
    have B2 := Lib.hid (B0.out.keepS hk3 (fun h => N0.out _ h rfl))
    have N2 : Hid (∀ y, y ∈ blks A2 → y ≠ W1.heap.size) := Lib.hid (fun y hy => by have := B0.out.lt; rcases hb3 y hy with h | h; exact N0.out y h; omega)
    clear hs3 hk3 hb3
    refine hK.out _ _ (fun _ => (by exact RC.out _ KQ2.out)) (fun hHeld => ?_)
    clear hK K
    replace hHeld := hHeld (by kernel_rfl)
    (try simp only [Act.put, List.setIfInBounds_toArray, List.set_cons_zero, List.set_cons_succ])
    refine anyZ.ready (rs := [6]) (by kernel_rfl) (by simp) ?_
    refine (AllZ.cons (o := { dst := some 52, op := Op.call { callee := Callee.builtin Builtin.append, args := #[Operand.tmp 49, Operand.tmp 51], argTypes := #[34, 34] }, type := 34, pos := _, after := #[{ on := 3, ground := Ground.data }, { on := 5, ground := Ground.data }, { on := 3, ground := Ground.chain }], guard := none }) rfl (fun K hK => ?_) AllZ.nil)
    refine step_app1 _ (by rfl) (.tmp 49) (.tmp 51) 34 (by rfl) 31 i0 _ 4 32 Try.underlying34 hi0' hz0 hz1 hz2 rfl (by omega) A2 n c2 (evs s.L) (by rfl) (by exact S2.out) _ _ _ (by rfl) (by exact B2.out) rfl rfl (by omega) (by omega) ?_
    intro A3 c3 w3 hs3 hk3 hb3
    have S3 : Hid (Sl w3 31 4 A3 (n + 1) c3 (evs (s.L ++ [x]))) := Lib.hid (by rw [evs_one]; exact hs3)
    have KQ3 : Hid (Keep W1.heap.size [] W1 w3) := Lib.hid (KQ2.out.chain (Nat.le_refl _) hk3 HA2.out)
    have HA3 : Hid (∀ y, y ∈ blks A3 → W1.heap.size ≤ y) := Lib.hid (fun y hy => by have := KQ2.out.size; rcases hb3 y hy with h | h; exact HA2.out y h; omega)
    have f3 := (R1.out.next KQ3.out).blk.frozen 1
    have c3' := (R1.out.next KQ3.out).cells
    clear hs3 hk3 hb3
    refine hK.out _ _ (fun _ => (by exact RC.out _ KQ3.out)) (fun hHeld => ?_)
    clear hK K
    replace hHeld := hHeld (by kernel_rfl)
    (try simp only [Act.put, List.setIfInBounds_toArray, List.set_cons_zero, List.set_cons_succ])
    refine anyZ.take (i := 7) (oi := { dst := some 53, op := Op.fieldAddr 42 (Operand.tmp 2) 1, type := 0, pos := _, after := #[{ on := 0, ground := Ground.phase }, { on := 1, ground := Ground.phase }, { on := 2, ground := Ground.phase }, { on := 3, ground := Ground.phase }, { on := 4, ground := Ground.phase }, { on := 5, ground := Ground.phase }, { on := 6, ground := Ground.phase }], guard := none }) (v := _) rfl (by kernel_rfl) (by kernel_rfl) (by kernel_rfl) (by kernel_rfl) (by kernel_rfl) (fun _ _ _ h => h) (Or.inl ⟨by rfl, by (intro wS hSw; (try dsimp only at hSw); go_simp; try with_reducible rfl)⟩) (by exact hHeld) ?_
    (try simp only [Act.put, List.setIfInBounds_toArray, List.set_cons_zero, List.set_cons_succ])
    refine anyZ.ready (rs := [8]) (by kernel_rfl) (by simp) ?_
    refine (AllZ.cons (o := { dst := none, op := Op.store 34 (Operand.tmp 53) (Operand.tmp 52), type := 0, pos := _, after := #[{ on := 7, ground := Ground.data }, { on := 6, ground := Ground.data }, { on := 6, ground := Ground.chain }, { on := 0, ground := Ground.phase }, { on := 1, ground := Ground.phase }, { on := 2, ground := Ground.phase }, { on := 3, ground := Ground.phase }, { on := 4, ground := Ground.phase }, { on := 5, ground := Ground.phase }, { on := 6, ground := Ground.phase }], guard := none }) rfl (fun K hK => ?_) AllZ.nil)
    go_simp
    refine hK.out _ _ (fun h => absurd h (by decide)) (fun hHeld => ?_)
    clear hK K
    (try simp only [Act.put, List.setIfInBounds_toArray, List.set_cons_zero, List.set_cons_succ])
    refine anyZ.done (by kernel_rfl) ?_ _
    clear hHeld
    have R2 := Lib.hid ((R1.out.next KQ3.out).row (S3.out.vw (by omega)) (by rw [HNL.out]; simp) (slcap S3.out).1 (slcap S3.out).2 (fun _ y hy => by have := HA3.out y hy; have := R1.out.zer.lt; omega))
    have HGA : Hid (∀ y, y ∈ blks A3 → w.heap.size ≤ y) := Lib.hid (fun y hy => Nat.le_trans R1.out.keep.size (HA3.out y hy))
    have HC3 := slcap S3.out
    have HF3 := S3.out.form
    obtain ⟨W3, hW3⟩ : ∃ W3, W3 = w3.setCell ⟨w.heap.size, 1, none⟩ (.slice A3 (n + 1) c3) := ⟨_, rfl⟩
    rw [← hW3] at R2 ⊢
    clear hW3 c1 f3 c3' KQ3 HA3 S3
    clear RC HV
    obtain ⟨mo, hmo⟩ : ∃ m, s.most = m := ⟨_, rfl⟩
    have a0 : W3.cell? ⟨w.heap.size, 0, none⟩ = some (.int .i64 mo) := by have h1 := R2.out.blk.cell 0; rw [← HS1.out] at h1; rw [← hmo]; exact h1
    have a2 : W3.cell? ⟨w.heap.size, 1, none⟩ = some (.slice A3 (n + 1) c3) := R2.out.blk.cell 1
    have HMO := Lib.hid hmo
    clear hmo
    by_cases hcl : mo < (n : Int) + 1
    · have HFIN : Hid ((⟨s1.most, (s.L ++ [x]).drop 1, s1.c0, s1.c1, s1.c2, s1.c3, s1.c4, s1.off⟩ : St) = bump s k (keepL s x)) := Lib.hid (by rw [← HS1.out]; unfold keepL; rw [HMO.out, ← HNL.out, if_pos hcl]; rfl)
      rcases HF3 with ⟨_, h0, _⟩ | ⟨ga, rfl, _, q1, q2⟩
      · omega
      obtain ⟨y, M, hyM⟩ : ∃ y M, s.L ++ [x] = y :: M := by cases hL : s.L with
        | nil => exact ⟨x, [], rfl⟩
        | cons a t => exact ⟨a, t ++ [x], rfl⟩
      have q3 : ((n : Int) + 1) ≤ (c3 : Int) := by omega
      have q4 : (c3 : Int) ≤ 9223372036854775807 := by unfold maxLen at q2; omega
      have HM : Hid (n = M.length ∧ (s.L ++ [x]).drop 1 = M) := Lib.hid ⟨by have h1 := congrArg List.length hyM; simp at h1; rw [HNL.out]; omega, by rw [hyM]; rfl⟩
      by_cases hq : c3 = 1
      · subst hq
        obtain rfl : n = 0 := by omega
        have HT : Hid (Vw W3 (some ⟨ga, 0, none⟩) 0 4 (evs M)) := Lib.hid (⟨by rw [evs_len, ← HM.out.1], fun h => absurd h (by omega)⟩)
        have R4 := Lib.hid (R2.out.row HT.out HM.out.1 (c2 := 0) (by omega) (by omega) (fun hn y hy => by have := R2.out.hA (by omega) y (by simpa [blks] using hy); exact this))
        have f2 := R2.out.blk.frozen 1
        rw [HM.out.2] at HFIN
        clear hyM HT
        go_wp2_with fail
        obtain ⟨s4, hs4⟩ : ∃ s4, (⟨s1.most, M, s1.c0, s1.c1, s1.c2, s1.c3, s1.c4, s1.off⟩ : St) = s4 := ⟨_, rfl⟩
        rw [hs4] at R4 HFIN
        have HOF : Hid (s4.off = s.off) := Lib.hid (by rw [← hs4, ← HS1.out]; rfl)
        clear hs4
        obtain ⟨W4, hW4⟩ : ∃ W4, W4 = W3.setCell ⟨w.heap.size, 1, none⟩ (.slice (some ⟨ga, 0, none⟩) 0 0) := ⟨_, rfl⟩
        rw [← hW4] at R4 ⊢
        clear hW4 a0 a2 f2
        have HFF : Hid (∀ F, Keep W4.heap.size [w.heap.size + 2] W4 F → (fun w' => (w'.cell? ⟨w.heap.size, 0, none⟩ = some (.int .i64 s4.most) ∧ w'.cell? ⟨w.heap.size, 1, none⟩ = some (.slice (some ⟨ga, 0, none⟩) 0 0) ∧ w'.cell? ⟨w.heap.size, 2, none⟩ = some (.slice O m d) ∧ w'.cell? ⟨w.heap.size, 3, none⟩ = some (.int .i64 s4.c0) ∧ w'.cell? ⟨w.heap.size, 4, none⟩ = some (.int .i64 s4.c1) ∧ w'.cell? ⟨w.heap.size, 5, none⟩ = some (.int .i64 s4.c2) ∧ w'.cell? ⟨w.heap.size, 6, none⟩ = some (.int .i64 s4.c3) ∧ w'.cell? ⟨w.heap.size, 7, none⟩ = some (.int .i64 s4.c4)) ∧ w'.cell? ⟨w.heap.size + 1, 1, none⟩ = some (.int .i64 x.id)) F) := Lib.hid (fun F k => by
          have hb := R4.out.blk.keepS k (by simp)
          have he := R4.out.box.keepS k (by simp)
          exact ⟨rcell8 hb, he.cell 1⟩)
        have HOV : Hid (Vw W4.drew O m 1 (nums s.off)) := Lib.hid (by have := R4.out.drew.rs.of; rw [HOF.out] at this; exact this)
        have KR : Hid (Keep W4.heap.size [w.heap.size + 2] W4 W4) := Lib.hid (Keep.refl _ _ _)
        have y0 : W4.frozen? ⟨w.heap.size + 1 + 1, 0, none⟩ = false := R4.out.zer.frozen 0
        have y1 : W4.frozen? ⟨w.heap.size + 1 + 1, 1, none⟩ = false := R4.out.zer.frozen 1
        have y2 : W4.frozen? ⟨w.heap.size + 1 + 1, 2, none⟩ = false := R4.out.zer.frozen 2
        have y3 : W4.frozen? ⟨w.heap.size + 1 + 1, 3, none⟩ = false := R4.out.zer.frozen 3
        have y4 : W4.frozen? ⟨w.heap.size + 1 + 1, 4, none⟩ = false := R4.out.zer.frozen 4
        have y5 : W4.frozen? ⟨w.heap.size + 1 + 1, 5, none⟩ = false := R4.out.zer.frozen 5
        have y6 : W4.frozen? ⟨w.heap.size + 1 + 1, 6, none⟩ = false := R4.out.zer.frozen 6
        have y7 : W4.frozen? ⟨w.heap.size + 1 + 1, 7, none⟩ = false := R4.out.zer.frozen 7
        have x0 : W4.cell? ⟨w.heap.size + 1 + 1, 0, none⟩ = some (.int .i64 0) := R4.out.zer.cell 0
        have x1 : W4.cell? ⟨w.heap.size + 1 + 1, 1, none⟩ = some (.slice none 0 0) := R4.out.zer.cell 1
        have x2 : W4.cell? ⟨w.heap.size + 1 + 1, 2, none⟩ = some (.slice none 0 0) := R4.out.zer.cell 2
        have x3 : W4.cell? ⟨w.heap.size + 1 + 1, 3, none⟩ = some (.int .i64 0) := R4.out.zer.cell 3
        have x4 : W4.cell? ⟨w.heap.size + 1 + 1, 4, none⟩ = some (.int .i64 0) := R4.out.zer.cell 4
        have x5 : W4.cell? ⟨w.heap.size + 1 + 1, 5, none⟩ = some (.int .i64 0) := R4.out.zer.cell 5
        have x6 : W4.cell? ⟨w.heap.size + 1 + 1, 6, none⟩ = some (.int .i64 0) := R4.out.zer.cell 6
        have x7 : W4.cell? ⟨w.heap.size + 1 + 1, 7, none⟩ = some (.int .i64 0) := R4.out.zer.cell 7
        refine wp_region_held_drew (S := (fun w' => (w'.cell? ⟨w.heap.size, 0, none⟩ = some (.int .i64 s4.most) ∧ w'.cell? ⟨w.heap.size, 1, none⟩ = some (.slice (some ⟨ga, 0, none⟩) 0 0) ∧ w'.cell? ⟨w.heap.size, 2, none⟩ = some (.slice O m d) ∧ w'.cell? ⟨w.heap.size, 3, none⟩ = some (.int .i64 s4.c0) ∧ w'.cell? ⟨w.heap.size, 4, none⟩ = some (.int .i64 s4.c1) ∧ w'.cell? ⟨w.heap.size, 5, none⟩ = some (.int .i64 s4.c2) ∧ w'.cell? ⟨w.heap.size, 6, none⟩ = some (.int .i64 s4.c3) ∧ w'.cell? ⟨w.heap.size, 7, none⟩ = some (.int .i64 s4.c4)) ∧ w'.cell? ⟨w.heap.size + 1, 1, none⟩ = some (.int .i64 x.id))) (by kernel_rfl) (by exact HFF.out _ KR.out.drew) (fun hHeld => ?_)
        refine wpAnyH_take (i := 0) (oi := { dst := some 64, op := Op.load 42 (Operand.tmp 2), type := 42, pos := _, after := #[], guard := none }) (v := _) rfl (by kernel_rfl) (by kernel_rfl) (by kernel_rfl) (fun _ _ _ h => h) (Or.inl ⟨by rfl, by (intro wS hSw; (try dsimp only at hSw); go_simp; try with_reducible rfl)⟩) (by assumption) ?_
        (try simp only [Act.put, List.setIfInBounds_toArray, List.set_cons_zero, List.set_cons_succ])
        refine wpAnyH_take (i := 1) (oi := { dst := some 65, op := Op.fieldAddr 42 (Operand.tmp 2) 2, type := 0, pos := _, after := #[], guard := none }) (v := _) rfl (by kernel_rfl) (by kernel_rfl) (by kernel_rfl) (fun _ _ _ h => h) (Or.inl ⟨by rfl, by (intro wS hSw; (try dsimp only at hSw); go_simp; try with_reducible rfl)⟩) (by assumption) ?_
        (try simp only [Act.put, List.setIfInBounds_toArray, List.set_cons_zero, List.set_cons_succ])
        refine wpAnyH_take (i := 2) (oi := { dst := some 66, op := Op.load 39 (Operand.tmp 65), type := 39, pos := _, after := #[{ on := 1, ground := Ground.data }], guard := none }) (v := _) rfl (by kernel_rfl) (by kernel_rfl) (by kernel_rfl) (fun _ _ _ h => h) (Or.inl ⟨by rfl, by (intro wS hSw; (try dsimp only at hSw); go_simp; try with_reducible rfl)⟩) (by assumption) ?_
        (try simp only [Act.put, List.setIfInBounds_toArray, List.set_cons_zero, List.set_cons_succ])
        refine wpAnyH_take (i := 3) (oi := { dst := some 67, op := Op.fieldAddr 31 (Operand.tmp 3) 1, type := 0, pos := _, after := #[], guard := none }) (v := _) rfl (by kernel_rfl) (by kernel_rfl) (by kernel_rfl) (fun _ _ _ h => h) (Or.inl ⟨by rfl, by (intro wS hSw; (try dsimp only at hSw); go_simp; try with_reducible rfl)⟩) (by assumption) ?_
        (try simp only [Act.put, List.setIfInBounds_toArray, List.set_cons_zero, List.set_cons_succ])
        refine wpAnyH_take (i := 4) (oi := { dst := some 68, op := Op.load 3 (Operand.tmp 67), type := 3, pos := _, after := #[{ on := 3, ground := Ground.data }], guard := none }) (v := _) rfl (by kernel_rfl) (by kernel_rfl) (by kernel_rfl) (fun _ _ _ h => h) (Or.inl ⟨by rfl, by (intro wS hSw; (try dsimp only at hSw); go_simp; try with_reducible rfl)⟩) (by assumption) ?_
        (try simp only [Act.put, List.setIfInBounds_toArray, List.set_cons_zero, List.set_cons_succ])
        refine wpAnyH_ready (rs := [5]) (by kernel_rfl) (by simp) ?_
        refine AllReadyH.cons (o := { dst := some 69, op := Op.call { callee := Callee.value (Operand.func 22), args := #[Operand.tmp 66, Operand.tmp 68], argTypes := #[39, 3] }, type := 3, pos := _, after := #[{ on := 2, ground := Ground.data }, { on := 4, ground := Ground.data }], guard := none }) rfl (fun K hK => ?_) AllReadyH.nil
        go_simp
        refine (find_any _ O m d s.off x.id zz (by omega) hmd (by exact HOV.out) HZ.out).mono ?_
        rintro e w' ⟨rfl, rfl⟩
        refine hK.out _ _ (by exact HFF.out _ KR.out.drew) (fun hHeld => ?_)
        clear hK K
        (try simp only [Act.put, List.setIfInBounds_toArray, List.set_cons_zero, List.set_cons_succ])
        refine wpAnyH_take (i := 6) (oi := { dst := some 70, op := Op.binOp BinOp.lss 3 (Operand.tmp 69) (Operand.const (Value.int IntKind.i64 0)) 3, type := 4, pos := _, after := #[{ on := 5, ground := Ground.data }, { on := 7, ground := Ground.gcOnly Departure.lateStores }], guard := none }) (v := _) rfl (by kernel_rfl) (by kernel_rfl) (by kernel_rfl) (fun _ _ _ h => h) (Or.inl ⟨by rfl, by (intro wS hSw; (try dsimp only at hSw); go_simp; try with_reducible rfl)⟩) (by assumption) ?_
        (try simp only [Act.put, List.setIfInBounds_toArray, List.set_cons_zero, List.set_cons_succ])
        refine wpAnyH_ready (rs := [7]) (by kernel_rfl) (by simp) ?_
        refine AllReadyH.cons (o := { dst := none, op := Op.store 42 (Operand.tmp 4) (Operand.tmp 64), type := 0, pos := _, after := #[{ on := 0, ground := Ground.data }, { on := 5, ground := Ground.chain }, { on := 0, ground := Ground.phase }, { on := 1, ground := Ground.textOnly Departure.lateStores }, { on := 2, ground := Ground.textOnly Departure.lateStores }, { on := 3, ground := Ground.textOnly Departure.lateStores }, { on := 4, ground := Ground.textOnly Departure.lateStores }, { on := 5, ground := Ground.textOnly Departure.lateStoresUnsure }, { on := 6, ground := Ground.textOnly Departure.lateStores }], guard := none }) rfl (fun K hK => ?_) AllReadyH.nil
        go_simp
        refine hK.out _ _ (by exact HFF.out _ (by refine Keep.drew ?_; repeat (first | with_reducible exact KR.out | with_reducible refine Keep.setS ?_ (by simp)))) (fun hHeld => ?_)
        clear hK K
        (try simp only [Act.put, List.setIfInBounds_toArray, List.set_cons_zero, List.set_cons_succ])
        refine wpAnyH_take (i := 8) (oi := { dst := some 5, op := Op.assign (Operand.tmp 70), type := 4, pos := _, after := #[{ on := 6, ground := Ground.data }, { on := 7, ground := Ground.chain }, { on := 0, ground := Ground.phase }, { on := 1, ground := Ground.phase }, { on := 2, ground := Ground.phase }, { on := 3, ground := Ground.phase }, { on := 4, ground := Ground.phase }, { on := 5, ground := Ground.phase }, { on := 6, ground := Ground.phase }, { on := 7, ground := Ground.phase }], guard := none }) (v := _) rfl (by kernel_rfl) (by kernel_rfl) (by kernel_rfl) (fun _ _ _ h => h) (Or.inl ⟨by rfl, by (intro wS hSw; (try dsimp only at hSw); go_simp; try with_reducible rfl)⟩) (by assumption) ?_
        (try simp only [Act.put, List.setIfInBounds_toArray, List.set_cons_zero, List.set_cons_succ])
        refine wpAnyH_take (i := 9) (oi := { dst := some 6, op := Op.assign (Operand.const (Value.int IntKind.i64 0)), type := 26, pos := _, after := #[{ on := 8, ground := Ground.chain }, { on := 0, ground := Ground.phase }, { on := 1, ground := Ground.phase }, { on := 2, ground := Ground.phase }, { on := 3, ground := Ground.phase }, { on := 4, ground := Ground.phase }, { on := 5, ground := Ground.phase }, { on := 6, ground := Ground.phase }, { on := 7, ground := Ground.phase }, { on := 8, ground := Ground.phase }], guard := none }) (v := _) rfl (by kernel_rfl) (by kernel_rfl) (by kernel_rfl) (fun _ _ _ h => h) (Or.inl ⟨by rfl, by (intro wS hSw; (try dsimp only at hSw); go_simp; try with_reducible rfl)⟩) (by assumption) ?_
        (try simp only [Act.put, List.setIfInBounds_toArray, List.set_cons_zero, List.set_cons_succ])
        refine wpAnyH_done (by kernel_rfl) ?_ _
        clear hHeld
        go_wp2_with fail
        refine bodyPost_ret (v := .tuple #[ragg s4 (some ⟨ga, 0, none⟩) 0 0 O m d, .bool (decide (zz < 0)), .int .i64 0]) (by simp [results, Try.results15, go_sem, x0, x1, x2, x3, x4, x5, x6, x7]) rfl ?_
        rw [HZB.out]
        rw [← HFIN.out]
        refine R4.out.fin rfl ?_ (by exact HGA.out)
        refine Keep.drew ?_
        repeat (first | with_reducible exact KR.out | with_reducible refine Keep.setS ?_ (by simp))
      · have q5 : (2 : Int) ≤ (c3 : Int) := by omega
        have HT : Hid (Vw W3 (some ⟨ga, 4, none⟩) n 4 (evs M)) := Lib.hid (by have h1 := vtail (y := y) (by have h1 := R2.out.rs.ev; simp only [hyM] at h1; exact h1); simpa using h1)
        have R4 := Lib.hid (R2.out.row HT.out HM.out.1 (c2 := c3 - 1) (by omega) (by omega) (fun hn y hy => by have := R2.out.hA (by omega) y (by simpa [blks] using hy); exact this))
        have f2 := R2.out.blk.frozen 1
        rw [HM.out.2] at HFIN
        clear hyM HT
        go_wp2_with fail
        obtain ⟨s4, hs4⟩ : ∃ s4, (⟨s1.most, M, s1.c0, s1.c1, s1.c2, s1.c3, s1.c4, s1.off⟩ : St) = s4 := ⟨_, rfl⟩
        rw [hs4] at R4 HFIN
        have HOF : Hid (s4.off = s.off) := Lib.hid (by rw [← hs4, ← HS1.out]; rfl)
        clear hs4
        obtain ⟨W4, hW4⟩ : ∃ W4, W4 = W3.setCell ⟨w.heap.size, 1, none⟩ (.slice (some ⟨ga, 4, none⟩) n (c3 - 1)) := ⟨_, rfl⟩
        rw [← hW4] at R4 ⊢
        clear hW4 a0 a2 f2
        have HFF : Hid (∀ F, Keep W4.heap.size [w.heap.size + 2] W4 F → (fun w' => (w'.cell? ⟨w.heap.size, 0, none⟩ = some (.int .i64 s4.most) ∧ w'.cell? ⟨w.heap.size, 1, none⟩ = some (.slice (some ⟨ga, 4, none⟩) n (c3 - 1)) ∧ w'.cell? ⟨w.heap.size, 2, none⟩ = some (.slice O m d) ∧ w'.cell? ⟨w.heap.size, 3, none⟩ = some (.int .i64 s4.c0) ∧ w'.cell? ⟨w.heap.size, 4, none⟩ = some (.int .i64 s4.c1) ∧ w'.cell? ⟨w.heap.size, 5, none⟩ = some (.int .i64 s4.c2) ∧ w'.cell? ⟨w.heap.size, 6, none⟩ = some (.int .i64 s4.c3) ∧ w'.cell? ⟨w.heap.size, 7, none⟩ = some (.int .i64 s4.c4)) ∧ w'.cell? ⟨w.heap.size + 1, 1, none⟩ = some (.int .i64 x.id)) F) := Lib.hid (fun F k => by
          have hb := R4.out.blk.keepS k (by simp)
          have he := R4.out.box.keepS k (by simp)
          exact ⟨rcell8 hb, he.cell 1⟩)
        have HOV : Hid (Vw W4.drew O m 1 (nums s.off)) := Lib.hid (by have := R4.out.drew.rs.of; rw [HOF.out] at this; exact this)
        have KR : Hid (Keep W4.heap.size [w.heap.size + 2] W4 W4) := Lib.hid (Keep.refl _ _ _)
        have y0 : W4.frozen? ⟨w.heap.size + 1 + 1, 0, none⟩ = false := R4.out.zer.frozen 0
        have y1 : W4.frozen? ⟨w.heap.size + 1 + 1, 1, none⟩ = false := R4.out.zer.frozen 1
        have y2 : W4.frozen? ⟨w.heap.size + 1 + 1, 2, none⟩ = false := R4.out.zer.frozen 2
        have y3 : W4.frozen? ⟨w.heap.size + 1 + 1, 3, none⟩ = false := R4.out.zer.frozen 3
        have y4 : W4.frozen? ⟨w.heap.size + 1 + 1, 4, none⟩ = false := R4.out.zer.frozen 4
        have y5 : W4.frozen? ⟨w.heap.size + 1 + 1, 5, none⟩ = false := R4.out.zer.frozen 5
        have y6 : W4.frozen? ⟨w.heap.size + 1 + 1, 6, none⟩ = false := R4.out.zer.frozen 6
        have y7 : W4.frozen? ⟨w.heap.size + 1 + 1, 7, none⟩ = false := R4.out.zer.frozen 7
        have x0 : W4.cell? ⟨w.heap.size + 1 + 1, 0, none⟩ = some (.int .i64 0) := R4.out.zer.cell 0
        have x1 : W4.cell? ⟨w.heap.size + 1 + 1, 1, none⟩ = some (.slice none 0 0) := R4.out.zer.cell 1
        have x2 : W4.cell? ⟨w.heap.size + 1 + 1, 2, none⟩ = some (.slice none 0 0) := R4.out.zer.cell 2
        have x3 : W4.cell? ⟨w.heap.size + 1 + 1, 3, none⟩ = some (.int .i64 0) := R4.out.zer.cell 3
        have x4 : W4.cell? ⟨w.heap.size + 1 + 1, 4, none⟩ = some (.int .i64 0) := R4.out.zer.cell 4
        have x5 : W4.cell? ⟨w.heap.size + 1 + 1, 5, none⟩ = some (.int .i64 0) := R4.out.zer.cell 5
        have x6 : W4.cell? ⟨w.heap.size + 1 + 1, 6, none⟩ = some (.int .i64 0) := R4.out.zer.cell 6
        have x7 : W4.cell? ⟨w.heap.size + 1 + 1, 7, none⟩ = some (.int .i64 0) := R4.out.zer.cell 7
        refine wp_region_held_drew (S := (fun w' => (w'.cell? ⟨w.heap.size, 0, none⟩ = some (.int .i64 s4.most) ∧ w'.cell? ⟨w.heap.size, 1, none⟩ = some (.slice (some ⟨ga, 4, none⟩) n (c3 - 1)) ∧ w'.cell? ⟨w.heap.size, 2, none⟩ = some (.slice O m d) ∧ w'.cell? ⟨w.heap.size, 3, none⟩ = some (.int .i64 s4.c0) ∧ w'.cell? ⟨w.heap.size, 4, none⟩ = some (.int .i64 s4.c1) ∧ w'.cell? ⟨w.heap.size, 5, none⟩ = some (.int .i64 s4.c2) ∧ w'.cell? ⟨w.heap.size, 6, none⟩ = some (.int .i64 s4.c3) ∧ w'.cell? ⟨w.heap.size, 7, none⟩ = some (.int .i64 s4.c4)) ∧ w'.cell? ⟨w.heap.size + 1, 1, none⟩ = some (.int .i64 x.id))) (by kernel_rfl) (by exact HFF.out _ KR.out.drew) (fun hHeld => ?_)
        refine wpAnyH_take (i := 0) (oi := { dst := some 64, op := Op.load 42 (Operand.tmp 2), type := 42, pos := _, after := #[], guard := none }) (v := _) rfl (by kernel_rfl) (by kernel_rfl) (by kernel_rfl) (fun _ _ _ h => h) (Or.inl ⟨by rfl, by (intro wS hSw; (try dsimp only at hSw); go_simp; try with_reducible rfl)⟩) (by assumption) ?_
        (try simp only [Act.put, List.setIfInBounds_toArray, List.set_cons_zero, List.set_cons_succ])
        refine wpAnyH_take (i := 1) (oi := { dst := some 65, op := Op.fieldAddr 42 (Operand.tmp 2) 2, type := 0, pos := _, after := #[], guard := none }) (v := _) rfl (by kernel_rfl) (by kernel_rfl) (by kernel_rfl) (fun _ _ _ h => h) (Or.inl ⟨by rfl, by (intro wS hSw; (try dsimp only at hSw); go_simp; try with_reducible rfl)⟩) (by assumption) ?_
        (try simp only [Act.put, List.setIfInBounds_toArray, List.set_cons_zero, List.set_cons_succ])
        refine wpAnyH_take (i := 2) (oi := { dst := some 66, op := Op.load 39 (Operand.tmp 65), type := 39, pos := _, after := #[{ on := 1, ground := Ground.data }], guard := none }) (v := _) rfl (by kernel_rfl) (by kernel_rfl) (by kernel_rfl) (fun _ _ _ h => h) (Or.inl ⟨by rfl, by (intro wS hSw; (try dsimp only at hSw); go_simp; try with_reducible rfl)⟩) (by assumption) ?_
        (try simp only [Act.put, List.setIfInBounds_toArray, List.set_cons_zero, List.set_cons_succ])
        refine wpAnyH_take (i := 3) (oi := { dst := some 67, op := Op.fieldAddr 31 (Operand.tmp 3) 1, type := 0, pos := _, after := #[], guard := none }) (v := _) rfl (by kernel_rfl) (by kernel_rfl) (by kernel_rfl) (fun _ _ _ h => h) (Or.inl ⟨by rfl, by (intro wS hSw; (try dsimp only at hSw); go_simp; try with_reducible rfl)⟩) (by assumption) ?_
        (try simp only [Act.put, List.setIfInBounds_toArray, List.set_cons_zero, List.set_cons_succ])
        refine wpAnyH_take (i := 4) (oi := { dst := some 68, op := Op.load 3 (Operand.tmp 67), type := 3, pos := _, after := #[{ on := 3, ground := Ground.data }], guard := none }) (v := _) rfl (by kernel_rfl) (by kernel_rfl) (by kernel_rfl) (fun _ _ _ h => h) (Or.inl ⟨by rfl, by (intro wS hSw; (try dsimp only at hSw); go_simp; try with_reducible rfl)⟩) (by assumption) ?_
        (try simp only [Act.put, List.setIfInBounds_toArray, List.set_cons_zero, List.set_cons_succ])
        refine wpAnyH_ready (rs := [5]) (by kernel_rfl) (by simp) ?_
        refine AllReadyH.cons (o := { dst := some 69, op := Op.call { callee := Callee.value (Operand.func 22), args := #[Operand.tmp 66, Operand.tmp 68], argTypes := #[39, 3] }, type := 3, pos := _, after := #[{ on := 2, ground := Ground.data }, { on := 4, ground := Ground.data }], guard := none }) rfl (fun K hK => ?_) AllReadyH.nil
        go_simp
        refine (find_any _ O m d s.off x.id zz (by omega) hmd (by exact HOV.out) HZ.out).mono ?_
        rintro e w' ⟨rfl, rfl⟩
        refine hK.out _ _ (by exact HFF.out _ KR.out.drew) (fun hHeld => ?_)
        clear hK K
        (try simp only [Act.put, List.setIfInBounds_toArray, List.set_cons_zero, List.set_cons_succ])
        refine wpAnyH_take (i := 6) (oi := { dst := some 70, op := Op.binOp BinOp.lss 3 (Operand.tmp 69) (Operand.const (Value.int IntKind.i64 0)) 3, type := 4, pos := _, after := #[{ on := 5, ground := Ground.data }, { on := 7, ground := Ground.gcOnly Departure.lateStores }], guard := none }) (v := _) rfl (by kernel_rfl) (by kernel_rfl) (by kernel_rfl) (fun _ _ _ h => h) (Or.inl ⟨by rfl, by (intro wS hSw; (try dsimp only at hSw); go_simp; try with_reducible rfl)⟩) (by assumption) ?_
        (try simp only [Act.put, List.setIfInBounds_toArray, List.set_cons_zero, List.set_cons_succ])
        refine wpAnyH_ready (rs := [7]) (by kernel_rfl) (by simp) ?_
        refine AllReadyH.cons (o := { dst := none, op := Op.store 42 (Operand.tmp 4) (Operand.tmp 64), type := 0, pos := _, after := #[{ on := 0, ground := Ground.data }, { on := 5, ground := Ground.chain }, { on := 0, ground := Ground.phase }, { on := 1, ground := Ground.textOnly Departure.lateStores }, { on := 2, ground := Ground.textOnly Departure.lateStores }, { on := 3, ground := Ground.textOnly Departure.lateStores }, { on := 4, ground := Ground.textOnly Departure.lateStores }, { on := 5, ground := Ground.textOnly Departure.lateStoresUnsure }, { on := 6, ground := Ground.textOnly Departure.lateStores }], guard := none }) rfl (fun K hK => ?_) AllReadyH.nil
        go_simp
        refine hK.out _ _ (by exact HFF.out _ (by refine Keep.drew ?_; repeat (first | with_reducible exact KR.out | with_reducible refine Keep.setS ?_ (by simp)))) (fun hHeld => ?_)
        clear hK K
        (try simp only [Act.put, List.setIfInBounds_toArray, List.set_cons_zero, List.set_cons_succ])
        refine wpAnyH_take (i := 8) (oi := { dst := some 5, op := Op.assign (Operand.tmp 70), type := 4, pos := _, after := #[{ on := 6, ground := Ground.data }, { on := 7, ground := Ground.chain }, { on := 0, ground := Ground.phase }, { on := 1, ground := Ground.phase }, { on := 2, ground := Ground.phase }, { on := 3, ground := Ground.phase }, { on := 4, ground := Ground.phase }, { on := 5, ground := Ground.phase }, { on := 6, ground := Ground.phase }, { on := 7, ground := Ground.phase }], guard := none }) (v := _) rfl (by kernel_rfl) (by kernel_rfl) (by kernel_rfl) (fun _ _ _ h => h) (Or.inl ⟨by rfl, by (intro wS hSw; (try dsimp only at hSw); go_simp; try with_reducible rfl)⟩) (by assumption) ?_
        (try simp only [Act.put, List.setIfInBounds_toArray, List.set_cons_zero, List.set_cons_succ])
        refine wpAnyH_take (i := 9) (oi := { dst := some 6, op := Op.assign (Operand.const (Value.int IntKind.i64 0)), type := 26, pos := _, after := #[{ on := 8, ground := Ground.chain }, { on := 0, ground := Ground.phase }, { on := 1, ground := Ground.phase }, { on := 2, ground := Ground.phase }, { on := 3, ground := Ground.phase }, { on := 4, ground := Ground.phase }, { on := 5, ground := Ground.phase }, { on := 6, ground := Ground.phase }, { on := 7, ground := Ground.phase }, { on := 8, ground := Ground.phase }], guard := none }) (v := _) rfl (by kernel_rfl) (by kernel_rfl) (by kernel_rfl) (fun _ _ _ h => h) (Or.inl ⟨by rfl, by (intro wS hSw; (try dsimp only at hSw); go_simp; try with_reducible rfl)⟩) (by assumption) ?_
        (try simp only [Act.put, List.setIfInBounds_toArray, List.set_cons_zero, List.set_cons_succ])
        refine wpAnyH_done (by kernel_rfl) ?_ _
        clear hHeld
        go_wp2_with fail
        refine bodyPost_ret (v := .tuple #[ragg s4 (some ⟨ga, 4, none⟩) n (c3 - 1) O m d, .bool (decide (zz < 0)), .int .i64 0]) (by simp [results, Try.results15, go_sem, x0, x1, x2, x3, x4, x5, x6, x7]) rfl ?_
        rw [HZB.out]
        rw [← HFIN.out]
        refine R4.out.fin rfl ?_ (by exact HGA.out)
        refine Keep.drew ?_
        repeat (first | with_reducible exact KR.out | with_reducible refine Keep.setS ?_ (by simp))
    · have HFIN : Hid ((⟨s1.most, s.L ++ [x], s1.c0, s1.c1, s1.c2, s1.c3, s1.c4, s1.off⟩ : St) = bump s k (keepL s x)) := Lib.hid (by rw [← HS1.out]; unfold keepL; rw [HMO.out, ← HNL.out, if_neg hcl]; rfl)
      go_wp2_with fail
      obtain ⟨s4, hs4⟩ : ∃ s4, (⟨s1.most, s.L ++ [x], s1.c0, s1.c1, s1.c2, s1.c3, s1.c4, s1.off⟩ : St) = s4 := ⟨_, rfl⟩
      rw [hs4] at R2 HFIN
      have HOF : Hid (s4.off = s.off) := Lib.hid (by rw [← hs4, ← HS1.out]; rfl)
      clear hs4 a0 a2
      have HFF : Hid (∀ F, Keep W3.heap.size [w.heap.size + 2] W3 F → (fun w' => (w'.cell? ⟨w.heap.size, 0, none⟩ = some (.int .i64 s4.most) ∧ w'.cell? ⟨w.heap.size, 1, none⟩ = some (.slice A3 (n + 1) c3) ∧ w'.cell? ⟨w.heap.size, 2, none⟩ = some (.slice O m d) ∧ w'.cell? ⟨w.heap.size, 3, none⟩ = some (.int .i64 s4.c0) ∧ w'.cell? ⟨w.heap.size, 4, none⟩ = some (.int .i64 s4.c1) ∧ w'.cell? ⟨w.heap.size, 5, none⟩ = some (.int .i64 s4.c2) ∧ w'.cell? ⟨w.heap.size, 6, none⟩ = some (.int .i64 s4.c3) ∧ w'.cell? ⟨w.heap.size, 7, none⟩ = some (.int .i64 s4.c4)) ∧ w'.cell? ⟨w.heap.size + 1, 1, none⟩ = some (.int .i64 x.id)) F) := Lib.hid (fun F k => by
        have hb := R2.out.blk.keepS k (by simp)
        have he := R2.out.box.keepS k (by simp)
        exact ⟨rcell8 hb, he.cell 1⟩)
      have HOV : Hid (Vw W3.drew O m 1 (nums s.off)) := Lib.hid (by have := R2.out.drew.rs.of; rw [HOF.out] at this; exact this)
      have KR : Hid (Keep W3.heap.size [w.heap.size + 2] W3 W3) := Lib.hid (Keep.refl _ _ _)
      have y0 : W3.frozen? ⟨w.heap.size + 1 + 1, 0, none⟩ = false := R2.out.zer.frozen 0
      have y1 : W3.frozen? ⟨w.heap.size + 1 + 1, 1, none⟩ = false := R2.out.zer.frozen 1
      have y2 : W3.frozen? ⟨w.heap.size + 1 + 1, 2, none⟩ = false := R2.out.zer.frozen 2
      have y3 : W3.frozen? ⟨w.heap.size + 1 + 1, 3, none⟩ = false := R2.out.zer.frozen 3
      have y4 : W3.frozen? ⟨w.heap.size + 1 + 1, 4, none⟩ = false := R2.out.zer.frozen 4
      have y5 : W3.frozen? ⟨w.heap.size + 1 + 1, 5, none⟩ = false := R2.out.zer.frozen 5
      have y6 : W3.frozen? ⟨w.heap.size + 1 + 1, 6, none⟩ = false := R2.out.zer.frozen 6
      have y7 : W3.frozen? ⟨w.heap.size + 1 + 1, 7, none⟩ = false := R2.out.zer.frozen 7
      have x0 : W3.cell? ⟨w.heap.size + 1 + 1, 0, none⟩ = some (.int .i64 0) := R2.out.zer.cell 0
      have x1 : W3.cell? ⟨w.heap.size + 1 + 1, 1, none⟩ = some (.slice none 0 0) := R2.out.zer.cell 1
      have x2 : W3.cell? ⟨w.heap.size + 1 + 1, 2, none⟩ = some (.slice none 0 0) := R2.out.zer.cell 2
      have x3 : W3.cell? ⟨w.heap.size + 1 + 1, 3, none⟩ = some (.int .i64 0) := R2.out.zer.cell 3
      have x4 : W3.cell? ⟨w.heap.size + 1 + 1, 4, none⟩ = some (.int .i64 0) := R2.out.zer.cell 4
      have x5 : W3.cell? ⟨w.heap.size + 1 + 1, 5, none⟩ = some (.int .i64 0) := R2.out.zer.cell 5
      have x6 : W3.cell? ⟨w.heap.size + 1 + 1, 6, none⟩ = some (.int .i64 0) := R2.out.zer.cell 6
      have x7 : W3.cell? ⟨w.heap.size + 1 + 1, 7, none⟩ = some (.int .i64 0) := R2.out.zer.cell 7
      refine wp_region_held_drew (S := (fun w' => (w'.cell? ⟨w.heap.size, 0, none⟩ = some (.int .i64 s4.most) ∧ w'.cell? ⟨w.heap.size, 1, none⟩ = some (.slice A3 (n + 1) c3) ∧ w'.cell? ⟨w.heap.size, 2, none⟩ = some (.slice O m d) ∧ w'.cell? ⟨w.heap.size, 3, none⟩ = some (.int .i64 s4.c0) ∧ w'.cell? ⟨w.heap.size, 4, none⟩ = some (.int .i64 s4.c1) ∧ w'.cell? ⟨w.heap.size, 5, none⟩ = some (.int .i64 s4.c2) ∧ w'.cell? ⟨w.heap.size, 6, none⟩ = some (.int .i64 s4.c3) ∧ w'.cell? ⟨w.heap.size, 7, none⟩ = some (.int .i64 s4.c4)) ∧ w'.cell? ⟨w.heap.size + 1, 1, none⟩ = some (.int .i64 x.id))) (by kernel_rfl) (by exact HFF.out _ KR.out.drew) (fun hHeld => ?_)
      refine wpAnyH_take (i := 0) (oi := { dst := some 64, op := Op.load 42 (Operand.tmp 2), type := 42, pos := _, after := #[], guard := none }) (v := _) rfl (by kernel_rfl) (by kernel_rfl) (by kernel_rfl) (fun _ _ _ h => h) (Or.inl ⟨by rfl, by (intro wS hSw; (try dsimp only at hSw); go_simp; try with_reducible rfl)⟩) (by assumption) ?_
      (try simp only [Act.put, List.setIfInBounds_toArray, List.set_cons_zero, List.set_cons_succ])
      refine wpAnyH_take (i := 1) (oi := { dst := some 65, op := Op.fieldAddr 42 (Operand.tmp 2) 2, type := 0, pos := _, after := #[], guard := none }) (v := _) rfl (by kernel_rfl) (by kernel_rfl) (by kernel_rfl) (fun _ _ _ h => h) (Or.inl ⟨by rfl, by (intro wS hSw; (try dsimp only at hSw); go_simp; try with_reducible rfl)⟩) (by assumption) ?_
      (try simp only [Act.put, List.setIfInBounds_toArray, List.set_cons_zero, List.set_cons_succ])
      refine wpAnyH_take (i := 2) (oi := { dst := some 66, op := Op.load 39 (Operand.tmp 65), type := 39, pos := _, after := #[{ on := 1, ground := Ground.data }], guard := none }) (v := _) rfl (by kernel_rfl) (by kernel_rfl) (by kernel_rfl) (fun _ _ _ h => h) (Or.inl ⟨by rfl, by (intro wS hSw; (try dsimp only at hSw); go_simp; try with_reducible rfl)⟩) (by assumption) ?_
      (try simp only [Act.put, List.setIfInBounds_toArray, List.set_cons_zero, List.set_cons_succ])
      refine wpAnyH_take (i := 3) (oi := { dst := some 67, op := Op.fieldAddr 31 (Operand.tmp 3) 1, type := 0, pos := _, after := #[], guard := none }) (v := _) rfl (by kernel_rfl) (by kernel_rfl) (by kernel_rfl) (fun _ _ _ h => h) (Or.inl ⟨by rfl, by (intro wS hSw; (try dsimp only at hSw); go_simp; try with_reducible rfl)⟩) (by assumption) ?_
      (try simp only [Act.put, List.setIfInBounds_toArray, List.set_cons_zero, List.set_cons_succ])
      refine wpAnyH_take (i := 4) (oi := { dst := some 68, op := Op.load 3 (Operand.tmp 67), type := 3, pos := _, after := #[{ on := 3, ground := Ground.data }], guard := none }) (v := _) rfl (by kernel_rfl) (by kernel_rfl) (by kernel_rfl) (fun _ _ _ h => h) (Or.inl ⟨by rfl, by (intro wS hSw; (try dsimp only at hSw); go_simp; try with_reducible rfl)⟩) (by assumption) ?_
      (try simp only [Act.put, List.setIfInBounds_toArray, List.set_cons_zero, List.set_cons_succ])
      refine wpAnyH_ready (rs := [5]) (by kernel_rfl) (by simp) ?_
      refine AllReadyH.cons (o := { dst := some 69, op := Op.call { callee := Callee.value (Operand.func 22), args := #[Operand.tmp 66, Operand.tmp 68], argTypes := #[39, 3] }, type := 3, pos := _, after := #[{ on := 2, ground := Ground.data }, { on := 4, ground := Ground.data }], guard := none }) rfl (fun K hK => ?_) AllReadyH.nil
      go_simp
      refine (find_any _ O m d s.off x.id zz (by omega) hmd (by exact HOV.out) HZ.out).mono ?_
      rintro e w' ⟨rfl, rfl⟩
      refine hK.out _ _ (by exact HFF.out _ KR.out.drew) (fun hHeld => ?_)
      clear hK K
      (try simp only [Act.put, List.setIfInBounds_toArray, List.set_cons_zero, List.set_cons_succ])
      refine wpAnyH_take (i := 6) (oi := { dst := some 70, op := Op.binOp BinOp.lss 3 (Operand.tmp 69) (Operand.const (Value.int IntKind.i64 0)) 3, type := 4, pos := _, after := #[{ on := 5, ground := Ground.data }, { on := 7, ground := Ground.gcOnly Departure.lateStores }], guard := none }) (v := _) rfl (by kernel_rfl) (by kernel_rfl) (by kernel_rfl) (fun _ _ _ h => h) (Or.inl ⟨by rfl, by (intro wS hSw; (try dsimp only at hSw); go_simp; try with_reducible rfl)⟩) (by assumption) ?_
      (try simp only [Act.put, List.setIfInBounds_toArray, List.set_cons_zero, List.set_cons_succ])
      refine wpAnyH_ready (rs := [7]) (by kernel_rfl) (by simp) ?_
      refine AllReadyH.cons (o := { dst := none, op := Op.store 42 (Operand.tmp 4) (Operand.tmp 64), type := 0, pos := _, after := #[{ on := 0, ground := Ground.data }, { on := 5, ground := Ground.chain }, { on := 0, ground := Ground.phase }, { on := 1, ground := Ground.textOnly Departure.lateStores }, { on := 2, ground := Ground.textOnly Departure.lateStores }, { on := 3, ground := Ground.textOnly Departure.lateStores }, { on := 4, ground := Ground.textOnly Departure.lateStores }, { on := 5, ground := Ground.textOnly Departure.lateStoresUnsure }, { on := 6, ground := Ground.textOnly Departure.lateStores }], guard := none }) rfl (fun K hK => ?_) AllReadyH.nil
      go_simp
      refine hK.out _ _ (by exact HFF.out _ (by refine Keep.drew ?_; repeat (first | with_reducible exact KR.out | with_reducible refine Keep.setS ?_ (by simp)))) (fun hHeld => ?_)
      clear hK K
      (try simp only [Act.put, List.setIfInBounds_toArray, List.set_cons_zero, List.set_cons_succ])
      refine wpAnyH_take (i := 8) (oi := { dst := some 5, op := Op.assign (Operand.tmp 70), type := 4, pos := _, after := #[{ on := 6, ground := Ground.data }, { on := 7, ground := Ground.chain }, { on := 0, ground := Ground.phase }, { on := 1, ground := Ground.phase }, { on := 2, ground := Ground.phase }, { on := 3, ground := Ground.phase }, { on := 4, ground := Ground.phase }, { on := 5, ground := Ground.phase }, { on := 6, ground := Ground.phase }, { on := 7, ground := Ground.phase }], guard := none }) (v := _) rfl (by kernel_rfl) (by kernel_rfl) (by kernel_rfl) (fun _ _ _ h => h) (Or.inl ⟨by rfl, by (intro wS hSw; (try dsimp only at hSw); go_simp; try with_reducible rfl)⟩) (by assumption) ?_
      (try simp only [Act.put, List.setIfInBounds_toArray, List.set_cons_zero, List.set_cons_succ])
      refine wpAnyH_take (i := 9) (oi := { dst := some 6, op := Op.assign (Operand.const (Value.int IntKind.i64 0)), type := 26, pos := _, after := #[{ on := 8, ground := Ground.chain }, { on := 0, ground := Ground.phase }, { on := 1, ground := Ground.phase }, { on := 2, ground := Ground.phase }, { on := 3, ground := Ground.phase }, { on := 4, ground := Ground.phase }, { on := 5, ground := Ground.phase }, { on := 6, ground := Ground.phase }, { on := 7, ground := Ground.phase }, { on := 8, ground := Ground.phase }], guard := none }) (v := _) rfl (by kernel_rfl) (by kernel_rfl) (by kernel_rfl) (fun _ _ _ h => h) (Or.inl ⟨by rfl, by (intro wS hSw; (try dsimp only at hSw); go_simp; try with_reducible rfl)⟩) (by assumption) ?_
      (try simp only [Act.put, List.setIfInBounds_toArray, List.set_cons_zero, List.set_cons_succ])
      refine wpAnyH_done (by kernel_rfl) ?_ _
      clear hHeld
      go_wp2_with fail
      refine bodyPost_ret (v := .tuple #[ragg s4 A3 (n + 1) c3 O m d, .bool (decide (zz < 0)), .int .i64 0]) (by simp [results, Try.results15, go_sem, x0, x1, x2, x3, x4, x5, x6, x7]) rfl ?_
      rw [HZB.out]
      rw [← HFIN.out]
      refine R2.out.fin rfl ?_ (by exact HGA.out)
      refine Keep.drew ?_
      repeat (first | with_reducible exact KR.out | with_reducible refine Keep.setS ?_ (by simp))
end Go.Proofs.Ytlceepknoijndaa
