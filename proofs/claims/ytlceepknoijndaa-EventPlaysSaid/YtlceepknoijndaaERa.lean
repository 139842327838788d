/- Raise. -/
import Derived.Test.YtlceepknoijndaaERaise
namespace Go.Proofs.Ytlceepknoijndaa
set_option linter.unusedVariables false
set_option linter.unusedSimpArgs false
open Go.RowKit
def bump (s : St) (k : Int) (L : List Ev) : St := ⟨s.most, L, s.c0, if k = 1 then s.c1 + 1 else s.c1, if k = 2 then s.c2 + 1 else s.c2, if k = 3 then s.c3 + 1 else s.c3, if k = 4 then s.c4 + 1 else s.c4, s.off⟩
def badE (x : Ev) : Prop := x.t < 0 ∨ 1099511627776 < x.t ∨ knP x.id = false ∨ x.sv < 1 ∨ 4 < x.sv
/-- the events that are kept -/
def keepL (s : St) (x : Ev) : List Ev := if s.most < ((s.L.length : Int) + 1) then (s.L ++ [x]).drop 1 else s.L ++ [x]
def RaPost (w : World) (g r : Nat) (A : Option Addr) (s : St) (b : Bool) (z : Int) (e : Ending) (w' : World) : Prop :=
  ∃ A' n' c', e = .returned (.tuple #[.bool b, .int .i64 z]) ∧ Sv w' g r A' n' c' s ∧ Keep w.heap.size (g :: blks A) w w' ∧ ∀ y, y ∈ blks A' → y ∈ blks A ∨ w.heap.size ≤ y
theorem box4 {w : World} {v : Nat} {t : TypeId} {x : Ev} (h : Blk w v t #[.int .i64 x.t, .int .i64 x.id, .int .i64 x.sv, .int .i64 x.vl]) : w.cell? ⟨v, 0, none⟩ = some (.int .i64 x.t) ∧ w.cell? ⟨v, 1, none⟩ = some (.int .i64 x.id) ∧ w.cell? ⟨v, 2, none⟩ = some (.int .i64 x.sv) ∧ w.cell? ⟨v, 3, none⟩ = some (.int .i64 x.vl) :=
  ⟨h.cell 0, h.cell 1, h.cell 2, h.cell 3⟩
theorem cell_k (s : St) (r : Nat) (A : Option Addr) (n c k : Nat) (h1 : 1 ≤ k) (h4 : k ≤ 4) : (scells s r A n c)[2 + k]? = some (.int .i64 (cntP s k)) := by
  have : k = 1 ∨ k = 2 ∨ k = 3 ∨ k = 4 := by omega
  rcases this with rfl | rfl | rfl | rfl <;> rfl
theorem set_k (s : St) (r : Nat) (A : Option Addr) (n c k : Nat) (h1 : 1 ≤ k) (h4 : k ≤ 4) : (scells s r A n c).setIfInBounds (2 + k) (.int .i64 (cntP s k + 1)) = scells (bump s k s.L) r A n c := by
  have : k = 1 ∨ k = 2 ∨ k = 3 ∨ k = 4 := by omega
  rcases this with rfl | rfl | rfl | rfl <;> rfl
theorem keepSv {w : World} {g r : Nat} {A : Option Addr} {n c : Nat} {s : St} (h : Sv w g r A n c s) (x : Ev) : Sv (w.alloc (.cells #[.int .i64 x.t, .int .i64 x.id, .int .i64 x.sv, .int .i64 x.vl] 31)) g r A n c s := h.keep0 ((Keep.refl _ _ w).alloc (Nat.le_refl _) _)
set_option maxRecDepth 100000 in
set_option maxHeartbeats 2000000 in
theorem raise_bad (w : World) (g r : Nat) (A : Option Addr) (n c : Nat) (s : St) (x : Ev) (hbad : badE x) (h : Sv w g r A n c s) : Calls Try.prog 10 #[pf g, eagg x] w (RaPost w g r A s false 1) := by
  have H := Lib.hid (keepSv h x)
  have HP : Hid (RaPost w g r A s false 1 (.returned (.tuple #[.bool false, .int .i64 1])) (w.alloc (.cells #[.int .i64 x.t, .int .i64 x.id, .int .i64 x.sv, .int .i64 x.vl] 31))) := Lib.hid ⟨A, n, c, rfl, keepSv h x, (Keep.refl _ _ w).alloc (Nat.le_refl _) _, fun y hy => .inl hy⟩
  obtain ⟨d0, d1, d2, d3⟩ := box4 (Blk.new w 31 #[.int .i64 x.t, .int .i64 x.id, .int .i64 x.sv, .int .i64 x.vl])
  clear h
  unfold badE at hbad
  by_cases h1 : x.t < 0
  · clear hbad
    go_enter Try.func10, Try.ntmps10
    go_wp2_with fail
    refine (none_any _ g r A n c s H.out).mono ?_
    rintro e w' ⟨rfl, rfl⟩
    go_wp2_with fail
    go_ret2
    exact HP.out
  by_cases h2 : 1099511627776 < x.t
  · clear hbad
    go_enter Try.func10, Try.ntmps10
    go_wp2_with fail
    refine (none_any _ g r A n c s H.out).mono ?_
    rintro e w' ⟨rfl, rfl⟩
    go_wp2_with fail
    go_ret2
    exact HP.out
  cases hk : knP x.id with
  | false =>
    clear hbad
    go_enter Try.func10, Try.ntmps10
    go_wp2_with fail
    refine (none_any _ g r A n c s H.out).mono ?_
    rintro e w' ⟨rfl, rfl⟩
    go_wp2_with fail
    refine (known_any _ x.id false hk).mono ?_
    rintro e w' ⟨rfl, rfl⟩
    go_wp2_with fail
    go_ret2
    exact HP.out
  | true =>
    by_cases h3 : x.sv < 1
    · clear hbad
      go_enter Try.func10, Try.ntmps10
      go_wp2_with fail
      refine (none_any _ g r A n c s H.out).mono ?_
      rintro e w' ⟨rfl, rfl⟩
      go_wp2_with fail
      refine (known_any _ x.id true hk).mono ?_
      rintro e w' ⟨rfl, rfl⟩
      go_wp2_with fail
      go_ret2
      exact HP.out
    · have h4 : 4 < x.sv := by
        rcases hbad with h | h | h | h | h
        · omega
        · omega
        · rw [hk] at h; cases h
        · omega
        · exact h
      clear hbad
      go_enter Try.func10, Try.ntmps10
      go_wp2_with fail
      refine (none_any _ g r A n c s H.out).mono ?_
      rintro e w' ⟨rfl, rfl⟩
      go_wp2_with fail
      refine (known_any _ x.id true hk).mono ?_
      rintro e w' ⟨rfl, rfl⟩
      go_wp2_with fail
      go_ret2
      exact HP.out
/-- a world on the way of Raise: the box of the event, the service -/
structure RW (w W : World) (g r : Nat) (A A' : Option Addr) (n c : Nat) (s : St) (x : Ev) : Prop where
  keep : Keep w.heap.size (g :: blks A) w W
  box : Blk W w.heap.size 31 #[.int .i64 x.t, .int .i64 x.id, .int .i64 x.sv, .int .i64 x.vl]
  sv : Sv W g r A' n c s
  lg : g < w.heap.size
  lr : r < w.heap.size
  lA : ∀ y, y ∈ blks A → y < w.heap.size
  hA : ∀ y, y ∈ blks A' → y ∈ blks A ∨ w.heap.size < y
theorem RW.drew {w W : World} {g r : Nat} {A A' : Option Addr} {n c : Nat} {s : St} {x : Ev} (h : RW w W g r A A' n c s x) : RW w W.drew g r A A' n c s x :=
  ⟨h.keep.drew, h.box, ⟨h.sv.blk, h.sv.sl, h.sv.len, h.sv.mp, h.sv.gr, h.sv.gA, h.sv.rA⟩, h.lg, h.lr, h.lA, h.hA⟩
theorem RW.drewN {w W : World} {g r : Nat} {A A' : Option Addr} {n c : Nat} {s : St} {x : Ev} (h : RW w W g r A A' n c s x) (k : Nat) : RW w (W.drewN k) g r A A' n c s x :=
  ⟨h.keep.drewN k, h.box, ⟨h.sv.blk, h.sv.sl, h.sv.len, h.sv.mp, h.sv.gr, h.sv.gA, h.sv.rA⟩, h.lg, h.lr, h.lA, h.hA⟩
theorem RW.next {w W W' : World} {g r : Nat} {A A' : Option Addr} {n c : Nat} {s : St} {x : Ev} (h : RW w W g r A A' n c s x) (hk : Keep W.heap.size [] W W') : RW w W' g r A A' n c s x := by
  have hz := h.box.lt
  exact ⟨h.keep.trans (hk.mono (by omega) (by simp)), h.box.keepS hk (by simp), h.sv.keep0 hk, h.lg, h.lr, h.lA, h.hA⟩
theorem MapB.far {w : World} {r : Nat} {ks : List Int} (h : MapB w r ks) {p : Addr} (hp : r ≠ p.block) (u : Value) : MapB (w.setCell p u) r ks :=
  h.keepS (S := [p.block]) ((Keep.refl _ _ _).setCell (.inr (by simp)) u) (by simpa using hp)
theorem RW.count {w W : World} {g r : Nat} {A A' : Option Addr} {n c : Nat} {s : St} {x : Ev} (h : RW w W g r A A' n c s x) (k : Nat) (h1 : 1 ≤ k) (h4 : k ≤ 4) :
    RW w (W.setCell ⟨g, 2 + k, none⟩ (.int .i64 (cntP s k + 1))) g r A A' n c (bump s k s.L) x := by
  have hg := h.lg
  have hr := h.lr
  have h2 := h.sv.gr
  refine ⟨h.keep.setS (by simp), h.box.far (p := ⟨g, 2 + k, none⟩) (by simp only; omega) _, ⟨?_, h.sv.sl.far _ h.sv.gA, h.sv.len, h.sv.mp.far (p := ⟨g, 2 + k, none⟩) (by simp only; exact Ne.symm h2) _, h2, h.sv.gA, h.sv.rA⟩, hg, hr, h.lA, h.hA⟩
  have := h.sv.blk.set_ (2 + k) (.int .i64 (cntP s k + 1))
  rw [set_k s r A' n c k h1 h4] at this
  exact this
/-- the row of events is another -/
theorem RW.row {w W W' : World} {g r : Nat} {A A' A2 : Option Addr} {n c n2 c2 : Nat} {s : St} {x : Ev} {L : List Ev} (h : RW w W g r A A' n c s x) (hk : Keep W.heap.size (blks A') W W') (hs : Sl W' 31 4 A2 n2 c2 (evs L)) (hl : n2 = L.length) (hb : ∀ y, y ∈ blks A2 → y ∈ blks A' ∨ W.heap.size ≤ y) :
    RW w (W'.setCell ⟨g, 1, none⟩ (.slice A2 n2 c2)) g r A A2 n2 c2 ⟨s.most, L, s.c0, s.c1, s.c2, s.c3, s.c4, s.off⟩ x := by
  have hg := h.lg
  have hr := h.lr
  have h2 := h.sv.gr
  have hlt := h.box.lt
  have gA2 : g ∉ blks A2 := fun hx => by
    rcases hb g hx with h' | h'
    · exact h.sv.gA h'
    · omega
  have rA2 : r ∉ blks A2 := fun hx => by
    rcases hb r hx with h' | h'
    · exact h.sv.rA h'
    · omega
  have bA : w.heap.size ∉ blks A' := fun hx => by
    rcases h.hA _ hx with h' | h'
    · have := h.lA _ h'; omega
    · omega
  have hblk := h.sv.blk.keepS hk h.sv.gA
  have hkw : Keep w.heap.size (g :: blks A) w W' := h.keep.trans (hk.mono (by omega) (fun y hy hx => by
    rcases h.hA _ hx with h' | h'
    · exact List.mem_cons_of_mem _ h'
    · omega))
  refine ⟨hkw.setS (by simp), (h.box.keepS hk bA).far (p := ⟨g, 1, none⟩) (by simp only; omega) _, ⟨?_, hs.far _ gA2, hl, (h.sv.mp.keepS hk h.sv.rA).far (p := ⟨g, 1, none⟩) (by simp only; exact Ne.symm h2) _, h2, gA2, rA2⟩, hg, hr, h.lA, fun y hy => ?_⟩
  · exact hblk.set_ 1 (.slice A2 n2 c2)
  · rcases hb y hy with h' | h'
    · exact h.hA y h'
    · exact .inr (by omega)
theorem tail4 {w : World} {e : TypeId} {g n c : Nat} {y : Ev} {M : List Ev} (h : Sl w e 4 (some ⟨g, 0, none⟩) (n + 1) c (evs (y :: M))) : Vw w (some ⟨g, 4, none⟩) n 4 (evs M) := by
  have hv := h.vw (by omega)
  have hl := hv.1
  have e1 : evs (y :: M) = ecells y ++ evs M := rfl
  rw [e1, List.length_append] at hl
  simp only [ecells, List.length_cons, List.length_nil] at hl
  refine ⟨by omega, fun _ => ?_⟩
  obtain ⟨b, o, he, hb, hc⟩ := hv.2 (by omega)
  cases he
  refine ⟨g, 4, rfl, hb, fun j u hu => ?_⟩
  have := hc (4 + j) u (by rw [e1, List.getElem?_append_right (by simp)]; simpa using hu)
  simpa using this
theorem RW.fin {w W : World} {g r : Nat} {A A' : Option Addr} {n c : Nat} {s s' : St} {x : Ev} {b : Bool} (h : RW w W g r A A' n c s x) (hs : s = s') : RaPost w g r A s' b 0 (.returned (.tuple #[.bool b, .int .i64 0])) W := by
  subst hs
  exact ⟨A', n, c, rfl, h.sv, h.keep, fun y hy => (h.hA y hy).imp id (fun h => by omega)⟩
theorem RW.s {w W : World} {g r : Nat} {A A' : Option Addr} {n c : Nat} {s : St} {x : Ev} {b : Bool} (h : RW w W g r A A' n c s x) (hb : decide (x.id ∈ s.off) = b) : W.cell? ⟨g, 7, none⟩ = some (.map (some r)) ∧ W.cell? ⟨w.heap.size, 1, none⟩ = some (.int .i64 x.id) ∧ (Instr.lookup 54 (.map (some r)) (.int .i64 x.id) false).run Try.prog W = .ok (.bool b) W :=
  ⟨h.sv.c7, h.box.cell 1, by rw [← hb]; exact h.sv.mp.look x.id⟩
set_option maxRecDepth 100000 in
set_option maxHeartbeats 8000000 in
theorem raise_good (w : World) (g r : Nat) (A : Option Addr) (n c : Nat) (s : St) (x : Ev) (k : Nat) (hk1 : 1 ≤ k) (hk4 : k ≤ 4) (hsv : x.sv = (k : Int)) (ht0 : 0 ≤ x.t) (ht1 : x.t ≤ 1099511627776) (hid : knP x.id = true) (h : Sv w g r A n c s)
    (hc0 : 0 ≤ cntP s k) (hc1 : cntP s k < 1000000) (hl : s.L.length < 1000) (hm0 : 0 ≤ s.most) (hm1 : s.most ≤ 256) (b : Bool) (hb : decide (x.id ∈ s.off) = b) : Calls Try.prog 10 #[pf g, eagg x] w (RaPost w g r A (bump s k (keepL s x)) (!b) 0) := by
  obtain ⟨i0, hi0, hz0, hz1, hz2⟩ := info_parts infoEv
  have hlg := h.blk.lt
  have hlr := h.mp.lt
  have R0 : Hid (RW w (w.alloc (.cells #[.int .i64 x.t, .int .i64 x.id, .int .i64 x.sv, .int .i64 x.vl] 31)) g r A A n c s x) :=
    Lib.hid ⟨(Keep.refl _ _ w).alloc (Nat.le_refl _) _, Blk.new _ _ _, keepSv h x, hlg, hlr, fun y hy => h.sl.blk hy, fun y hy => .inl hy⟩
  have hnl := h.len
  obtain ⟨d0, d1, d2, d3⟩ := box4 R0.out.box
  have HB := Lib.hid hb
  have HSV := Lib.hid hsv
  clear h hb hlg hlr
  have hk1' : (1 : Int) ≤ (k : Int) := by omega
  have hv1 : 1 ≤ x.sv := by omega
  have hk5 : (k : Int) < 5 := by omega
  have hv4 : x.sv ≤ 4 := by omega
  have hk4' : (k : Int) ≤ 4 := by omega
  obtain ⟨C, hC⟩ : ∃ C, cntP s k = C := ⟨_, rfl⟩
  rw [hC] at hc0 hc1
  have HC := Lib.hid hC
  have wC : IntKind.i64.wrap (C + 1) = C + 1 := by rw [IntKind.wrap_i64]; omega
  have HNL := Lib.hid hnl
  have hn1 : n < 1000 := by omega
  clear hC hnl hsv
  go_enter Try.func10, Try.ntmps10
  go_wp2_with fail
  refine (none_any _ g r A n c s R0.out.sv).mono ?_
  rintro e w' ⟨rfl, rfl⟩
  go_wp2_with fail
  refine (known_any _ x.id true hid).mono ?_
  rintro e w' ⟨rfl, rfl⟩
  go_wp2_with fail
  obtain ⟨W, hW⟩ : ∃ W, W = w.alloc (.cells #[.int .i64 x.t, .int .i64 x.id, .int .i64 x.sv, .int .i64 x.vl] 31) := ⟨_, rfl⟩
  rw [← hW] at R0 d0 d1 d2 d3 ⊢
  clear hW
  rw [HSV.out] at d2
  have s0d : W.drew.cell? ⟨w.heap.size, 2, none⟩ = some (.int .i64 (k : Int)) := d2
  have e1 : W.drew.cell? ⟨g, 2 + k, none⟩ = some (.int .i64 C) := by
    have h1 := R0.out.drew.sv.blk.cell (2 + k)
    rw [cell_k s r A n c k hk1 hk4, HC.out] at h1
    exact h1
  have f1 := R0.out.drew.sv.blk.frozen (2 + k)
  refine wp_region_held_drew (S := (fun w' => w'.cell? ⟨w.heap.size, 2, none⟩ = some (.int .i64 (k : Int)))) (by kernel_rfl) (by exact s0d) (fun hHeld => ?_)
  refine wpAnyH_take (i := 0) (oi := { dst := some 32, op := Op.move (Operand.tmp 0), type := 24, pos := _, after := #[], guard := none }) (v := _) rfl (by kernel_rfl) (by kernel_rfl) (by kernel_rfl) (fun _ _ _ h => h) (Or.inl ⟨by rfl, by (intro wS hSw; (try dsimp only at hSw); go_simp; try with_reducible rfl)⟩) (by assumption) ?_
  (try simp only [Act.put, List.setIfInBounds_toArray, List.set_cons_zero, List.set_cons_succ])
  refine wpAnyH_take (i := 1) (oi := { dst := some 33, op := Op.fieldAddr 31 (Operand.tmp 3) 2, type := 0, pos := _, after := #[], guard := none }) (v := _) rfl (by kernel_rfl) (by kernel_rfl) (by kernel_rfl) (fun _ _ _ h => h) (Or.inl ⟨by rfl, by (intro wS hSw; (try dsimp only at hSw); go_simp; try with_reducible rfl)⟩) (by assumption) ?_
  (try simp only [Act.put, List.setIfInBounds_toArray, List.set_cons_zero, List.set_cons_succ])
  refine wpAnyH_take (i := 2) (oi := { dst := some 34, op := Op.load 3 (Operand.tmp 33), type := 3, pos := _, after := #[{ on := 1, ground := Ground.data }], guard := none }) (v := _) rfl (by kernel_rfl) (by kernel_rfl) (by kernel_rfl) (fun _ _ _ h => h) (Or.inl ⟨by rfl, by (intro wS hSw; (try dsimp only at hSw); go_simp; try with_reducible rfl)⟩) (by assumption) ?_
  (try simp only [Act.put, List.setIfInBounds_toArray, List.set_cons_zero, List.set_cons_succ])
  refine wpAnyH_take (i := 3) (oi := { dst := some 35, op := Op.nilCheck (Operand.tmp 32), type := 0, pos := _, after := #[{ on := 0, ground := Ground.data }], guard := none }) (v := _) rfl (by kernel_rfl) (by kernel_rfl) (by kernel_rfl) (fun _ _ _ h => h) (Or.inl ⟨by rfl, by (intro wS hSw; (try dsimp only at hSw); go_simp; try with_reducible rfl)⟩) (by assumption) ?_
  (try simp only [Act.put, List.setIfInBounds_toArray, List.set_cons_zero, List.set_cons_succ])
  refine wpAnyH_take (i := 4) (oi := { dst := some 36, op := Op.fieldAddr 56 (Operand.tmp 35) 2, type := 0, pos := _, after := #[{ on := 3, ground := Ground.data }], guard := none }) (v := _) rfl (by kernel_rfl) (by kernel_rfl) (by kernel_rfl) (fun _ _ _ h => h) (Or.inl ⟨by rfl, by (intro wS hSw; (try dsimp only at hSw); go_simp; try with_reducible rfl)⟩) (by assumption) ?_
  (try simp only [Act.put, List.setIfInBounds_toArray, List.set_cons_zero, List.set_cons_succ])
  refine wpAnyH_take (i := 5) (oi := { dst := some 37, op := Op.indexAddr 40 (Operand.tmp 36) (Operand.tmp 34), type := 0, pos := _, after := #[{ on := 4, ground := Ground.data }, { on := 2, ground := Ground.data }], guard := none }) (v := _) rfl (by kernel_rfl) (by kernel_rfl) (by kernel_rfl) (fun _ _ _ h => h) (Or.inl ⟨by rfl, by (intro wS hSw; (try dsimp only at hSw); go_simp; try with_reducible rfl)⟩) (by assumption) ?_
  (try simp only [Act.put, List.setIfInBounds_toArray, List.set_cons_zero, List.set_cons_succ])
  refine wpAnyH_take (i := 8) (oi := { dst := some 40, op := Op.nilCheck (Operand.tmp 32), type := 0, pos := _, after := #[{ on := 0, ground := Ground.data }], guard := none }) (v := _) rfl (by kernel_rfl) (by kernel_rfl) (by kernel_rfl) (fun _ _ _ h => h) (Or.inl ⟨by rfl, by (intro wS hSw; (try dsimp only at hSw); go_simp; try with_reducible rfl)⟩) (by assumption) ?_
  (try simp only [Act.put, List.setIfInBounds_toArray, List.set_cons_zero, List.set_cons_succ])
  refine wpAnyH_take (i := 9) (oi := { dst := some 41, op := Op.fieldAddr 56 (Operand.tmp 40) 2, type := 0, pos := _, after := #[{ on := 8, ground := Ground.data }], guard := none }) (v := _) rfl (by kernel_rfl) (by kernel_rfl) (by kernel_rfl) (fun _ _ _ h => h) (Or.inl ⟨by rfl, by (intro wS hSw; (try dsimp only at hSw); go_simp; try with_reducible rfl)⟩) (by assumption) ?_
  (try simp only [Act.put, List.setIfInBounds_toArray, List.set_cons_zero, List.set_cons_succ])
  refine wpAnyH_ready (rs := [6]) (by kernel_rfl) (by simp) ?_
  refine AllReadyH.cons (o := { dst := some 38, op := Op.load 3 (Operand.tmp 37), type := 3, pos := _, after := #[{ on := 5, ground := Ground.data }], guard := none }) rfl (fun K hK => ?_) AllReadyH.nil
  go_simp
  refine hK.out _ _ (by first | with_reducible exact s0d | with_reducible exact s1d) (fun hHeld => ?_)
  clear hK K
  (try simp only [Act.put, List.setIfInBounds_toArray, List.set_cons_zero, List.set_cons_succ])
  refine wpAnyH_take (i := 7) (oi := { dst := some 39, op := Op.binOp BinOp.add 3 (Operand.tmp 38) (Operand.const (Value.int IntKind.i64 1)) 3, type := 3, pos := _, after := #[{ on := 6, ground := Ground.data }], guard := none }) (v := _) rfl (by kernel_rfl) (by kernel_rfl) (by kernel_rfl) (fun _ _ _ h => h) (Or.inl ⟨by rfl, by (intro wS hSw; (try dsimp only at hSw); go_simp; try with_reducible rfl)⟩) (by assumption) ?_
  (try simp only [Act.put, List.setIfInBounds_toArray, List.set_cons_zero, List.set_cons_succ])
  refine wpAnyH_take (i := 10) (oi := { dst := some 42, op := Op.indexAddr 40 (Operand.tmp 41) (Operand.tmp 34), type := 0, pos := _, after := #[{ on := 9, ground := Ground.data }, { on := 2, ground := Ground.data }, { on := 0, ground := Ground.phase }, { on := 1, ground := Ground.phase }, { on := 2, ground := Ground.phase }, { on := 3, ground := Ground.phase }, { on := 4, ground := Ground.phase }, { on := 5, ground := Ground.phase }, { on := 6, ground := Ground.phase }, { on := 7, ground := Ground.phase }], guard := none }) (v := _) rfl (by kernel_rfl) (by kernel_rfl) (by kernel_rfl) (fun _ _ _ h => h) (Or.inl ⟨by rfl, by (intro wS hSw; (try dsimp only at hSw); go_simp; try with_reducible rfl)⟩) (by assumption) ?_
  (try simp only [Act.put, List.setIfInBounds_toArray, List.set_cons_zero, List.set_cons_succ])
  refine wpAnyH_ready (rs := [11]) (by kernel_rfl) (by simp) ?_
  refine AllReadyH.cons (o := { dst := none, op := Op.store 3 (Operand.tmp 42) (Operand.tmp 39), type := 0, pos := _, after := #[{ on := 10, ground := Ground.data }, { on := 7, ground := Ground.data }, { on := 0, ground := Ground.phase }, { on := 1, ground := Ground.phase }, { on := 2, ground := Ground.phase }, { on := 3, ground := Ground.phase }, { on := 4, ground := Ground.phase }, { on := 5, ground := Ground.phase }, { on := 6, ground := Ground.phase }, { on := 7, ground := Ground.phase }], guard := none }) rfl (fun K hK => ?_) AllReadyH.nil
  go_simp
  have R1 := Lib.hid (R0.out.count k hk1 hk4).drew
  rw [HC.out] at R1
  have s1d : (W.setCell ⟨g, 2 + k, none⟩ (.int .i64 (C + 1))).drew.cell? ⟨w.heap.size, 2, none⟩ = some (.int .i64 (k : Int)) := by have h1 := (box4 R1.out.box).2.2.1; rw [HSV.out] at h1; exact h1
  refine hK.out _ _ (by first | with_reducible exact s0d | with_reducible exact s1d) (fun hHeld => ?_)
  clear hK K
  (try simp only [Act.put, List.setIfInBounds_toArray, List.set_cons_zero, List.set_cons_succ])
  refine wpAnyH_done (by kernel_rfl) ?_ _
  obtain ⟨W1, hW1⟩ : ∃ W1, W1 = (W.setCell ⟨g, 2 + k, none⟩ (.int .i64 (C + 1))).drew := ⟨_, rfl⟩
  rw [← hW1] at R1 ⊢
  clear hW1 s0d s1d e1 f1 d0 d1 d2 d3
  obtain ⟨s1, hs1⟩ : ∃ s1, bump s k s.L = s1 := ⟨_, rfl⟩
  rw [hs1] at R1
  have a1 : W1.cell? ⟨g, 1, none⟩ = some (.slice A n c) := R1.out.sv.blk.cell 1
  obtain ⟨d0, d1, d2, d3⟩ := box4 R1.out.box
  go_wp2_with fail
  have HSL : Hid (Sl W1 31 4 A n c (evs s.L)) := Lib.hid (by have h1 := R1.out.sv.sl; rw [← hs1] at h1; exact h1)
  have d5 : ∀ o : Obj, (W1.alloc o).cell? ⟨g, 1, none⟩ = some (.slice A n c) := fun o => (R1.out.sv.blk.alloc o).cell 1
  go_region_law (first
    | (refine step_app1 _ rfl (.tmp 47) (.tmp 49) 34 rfl 31 i0 _ 4 32 Try.underlying34 hi0 hz0 hz1 hz2 rfl (by omega) A n c (evs s.L) rfl (by exact HSL.out.alloc _) _ _ _ rfl (by exact Blk.new _ _ _) rfl rfl (by omega) (by omega) ?_
       intro A2 c2 w3 hs3 hk3 hb3
       have HS3 : Hid (Sl w3 31 4 A2 (n + 1) c2 (evs (s.L ++ [x]))) := Lib.hid (by rw [evs_app]; exact hs3)
       have HK3 := Lib.hid hk3.undrew
       have HB3 := Lib.hid hb3
       have R2 := Lib.hid (R1.out.next ((Keep.refl _ _ W1).alloc (Nat.le_refl _) (.cells #[.int .i64 x.t, .int .i64 x.id, .int .i64 x.sv, .int .i64 x.vl] 31)))
       have hb4 := R2.out.sv.blk.keepS hk3.undrew R2.out.sv.gA
       have f4 := hb4.frozen 1
       have d4 : w3.cell? ⟨g, 1, none⟩ = some (.slice A n c) := hb4.cell 1
       clear hs3 hk3 hb3 hb4))
  all_goals
    have R3 := Lib.hid (R2.out.row HK3.out HS3.out (by rw [HNL.out]; simp) (fun y hy => (HB3.out y hy).imp id (fun h => by simp at h ⊢; omega)))
    obtain ⟨W3, hW3⟩ : ∃ W3, W3 = w3.setCell ⟨g, 1, none⟩ (.slice A2 (n + 1) c2) := ⟨_, rfl⟩
    rw [← hW3] at R3 ⊢
    have HBO : Hid (decide (x.id ∈ s1.off) = b) := Lib.hid (by rw [← hs1]; exact HB.out)
    obtain ⟨mo, hmo⟩ : ∃ m, s.most = m := ⟨_, rfl⟩
    have a0 : W3.cell? ⟨g, 0, none⟩ = some (.int .i64 mo) := by have h1 := R3.out.sv.blk.cell 0; rw [← hs1] at h1; rw [← hmo]; exact h1
    have a2 : W3.cell? ⟨g, 1, none⟩ = some (.slice A2 (n + 1) c2) := R3.out.sv.blk.cell 1
    have HS1 := Lib.hid hs1
    have HMO := Lib.hid hmo
    clear hW3 f4 d4 a1 d0 d1 d2 d3 d5 HSL HS3 HK3 HB3 R2 R1 hs1 hmo
    by_cases hcl : mo < (n : Int) + 1
    · have HFIN : Hid ((⟨s1.most, (s.L ++ [x]).drop 1, s1.c0, s1.c1, s1.c2, s1.c3, s1.c4, s1.off⟩ : St) = bump s k (keepL s x)) := Lib.hid (by rw [← HS1.out]; unfold keepL; rw [HMO.out, ← HNL.out, if_pos hcl]; rfl)
      rcases R3.out.sv.sl.form with ⟨_, h0, _⟩ | ⟨ga, rfl, _, q1, q2⟩
      · omega
      obtain ⟨y, M, hyM⟩ : ∃ y M, s.L ++ [x] = y :: M := by cases hL : s.L with
        | nil => exact ⟨x, [], rfl⟩
        | cons a t => exact ⟨a, t ++ [x], rfl⟩
      have q3 : ((n : Int) + 1) ≤ (c2 : Int) := by omega
      have q4 : (c2 : Int) ≤ 9223372036854775807 := by unfold maxLen at q2; omega
      go_wp2_with fail
      go_quiet (fail)
      have R4 := Lib.hid (R3.out.drewN nq)
      obtain ⟨W4, hW4⟩ : ∃ W4, W4 = W3.drewN nq := ⟨_, rfl⟩
      have a4 : W4.cell? ⟨g, 1, none⟩ = some (.slice (some ⟨ga, 0, none⟩) (n + 1) c2) := by rw [hW4]; exact a2
      have a5 : W4.frozen? ⟨g, 1, none⟩ = false := by rw [hW4]; exact R4.out.sv.blk.frozen 1
      rw [← hW4] at R4 ⊢
      clear hW4 a0 a2 R3
      have HT : Hid (Vw W4 (some ⟨ga, 4, none⟩) n 4 (evs M)) := Lib.hid (tail4 (y := y) (by have h1 := R4.out.sv.sl; simp only [hyM] at h1; exact h1))
      have HM : Hid (n = M.length ∧ (s.L ++ [x]).drop 1 = M) := Lib.hid ⟨by have h1 := congrArg List.length hyM; simp at h1; rw [HNL.out]; omega, by rw [hyM]; rfl⟩
      clear hyM
      by_cases hq : c2 = 1
      · subst hq
        obtain rfl : n = 0 := by omega
        have HT0 : Hid (Vw W4 (some ⟨ga, 0, none⟩) 0 4 (evs M)) := Lib.hid ⟨by rw [evs_len, ← HM.out.1], fun h => absurd h (by omega)⟩
        go_wp2_with fail
        refine (clone_any _ (some ⟨ga, 0, none⟩) 0 0 M (by omega) HT0.out).mono ?_
        rintro e w5 ⟨A5, c5, rfl, hs, hk, hb⟩
        have R5 := Lib.hid (R4.out.next hk)
        have R6 := Lib.hid (R4.out.row (hk.mono (Nat.le_refl _) (by simp)) hs HM.out.1 (fun y hy => .inr (hb y hy)))
        have f5 := R5.out.sv.blk.frozen 1
        have a6 : w5.cell? ⟨g, 1, none⟩ = some (.slice (some ⟨ga, 0, none⟩) (0 + 1) 1) := R5.out.sv.blk.cell 1
        rw [HM.out.2] at HFIN
        clear hs hk hb HT a4 a5 R4 R5
        go_wp2_with fail
        obtain ⟨W6, hW6⟩ : ∃ W6, W6 = w5.setCell ⟨g, 1, none⟩ (.slice A5 0 c5) := ⟨_, rfl⟩
        rw [← hW6] at R6 ⊢
        clear hW6 f5 a6
        have s9 := R6.out.drew.s HBO.out
        go_wp2_with fail
        go_region_held3 (fun w' => w'.cell? ⟨g, 7, none⟩ = some (.map (some r)) ∧ w'.cell? ⟨w.heap.size, 1, none⟩ = some (.int .i64 x.id) ∧ (Instr.lookup 54 (.map (some r)) (.int .i64 x.id) false).run Try.prog w' = .ok (.bool b) w')
          (first | with_reducible exact s9) (fail)
        go_wp2_with fail
        go_ret2
        exact R6.out.drew.fin HFIN.out
      · have q5 : (2 : Int) ≤ (c2 : Int) := by omega
        go_wp2_with fail
        refine (clone_any _ (some ⟨ga, 4, none⟩) n _ M (by omega) HT.out).mono ?_
        rintro e w5 ⟨A5, c5, rfl, hs, hk, hb⟩
        have R5 := Lib.hid (R4.out.next hk)
        have R6 := Lib.hid (R4.out.row (hk.mono (Nat.le_refl _) (by simp)) hs HM.out.1 (fun y hy => .inr (hb y hy)))
        have f5 := R5.out.sv.blk.frozen 1
        have a6 : w5.cell? ⟨g, 1, none⟩ = some (.slice (some ⟨ga, 0, none⟩) (n + 1) c2) := R5.out.sv.blk.cell 1
        rw [HM.out.2] at HFIN
        clear hs hk hb HT a4 a5 R4 R5
        go_wp2_with fail
        obtain ⟨W6, hW6⟩ : ∃ W6, W6 = w5.setCell ⟨g, 1, none⟩ (.slice A5 n c5) := ⟨_, rfl⟩
        rw [← hW6] at R6 ⊢
        clear hW6 f5 a6
        have s9 := R6.out.drew.s HBO.out
        go_wp2_with fail
        go_region_held3 (fun w' => w'.cell? ⟨g, 7, none⟩ = some (.map (some r)) ∧ w'.cell? ⟨w.heap.size, 1, none⟩ = some (.int .i64 x.id) ∧ (Instr.lookup 54 (.map (some r)) (.int .i64 x.id) false).run Try.prog w' = .ok (.bool b) w')
          (first | with_reducible exact s9) (fail)
        go_wp2_with fail
        go_ret2
        exact R6.out.drew.fin HFIN.out
    · have HFIN : Hid ((⟨s1.most, s.L ++ [x], s1.c0, s1.c1, s1.c2, s1.c3, s1.c4, s1.off⟩ : St) = bump s k (keepL s x)) := Lib.hid (by rw [← HS1.out]; unfold keepL; rw [HMO.out, ← HNL.out, if_neg hcl]; rfl)
      go_wp2_with fail
      go_quiet (fail)
      have R4 := Lib.hid (R3.out.drewN nq)
      obtain ⟨W4, hW4⟩ : ∃ W4, W4 = W3.drewN nq := ⟨_, rfl⟩
      rw [← hW4] at R4 ⊢
      clear hW4 a0 a2 R3
      have s9 := R4.out.drew.s HBO.out
      go_wp2_with fail
      go_region_held3 (fun w' => w'.cell? ⟨g, 7, none⟩ = some (.map (some r)) ∧ w'.cell? ⟨w.heap.size, 1, none⟩ = some (.int .i64 x.id) ∧ (Instr.lookup 54 (.map (some r)) (.int .i64 x.id) false).run Try.prog w' = .ok (.bool b) w')
        (first | with_reducible exact s9) (fail)
      go_wp2_with fail
      go_ret2
      exact R4.out.drew.fin HFIN.out
end Go.Proofs.Ytlceepknoijndaa
