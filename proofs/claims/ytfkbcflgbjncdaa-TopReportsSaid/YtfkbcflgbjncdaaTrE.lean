/- The tracker: Take: its contract. -/
import Derived.Test.YtfkbcflgbjncdaaTrD
namespace Go.Proofs.Ytfkbcflgbjncdaa
set_option linter.unusedVariables false
set_option linter.unusedSimpArgs false
open Go.RowKit
def takeP (t : Tk) (a : Ak) (now : Int) : Int × Tk :=
  if a.valid = true then
    match findI t.D a.src a.num with
    | none => (8, ⟨adv t.now now, t.to, t.D⟩)
    | some i => match t.D[i]? with
      | none => (8, ⟨adv t.now now, t.to, t.D⟩)
      | some x => if follows x.g a.stg = true then (0, ⟨adv t.now now, t.to, t.D.set i ⟨x.s, x.n, x.t, a.stg, a.cod⟩⟩) else (12, ⟨adv t.now now, t.to, t.D⟩)
  else (1, ⟨adv t.now now, t.to, t.D⟩)
theorem mem_set_is {D : List Is} {i : Nat} {x y : Is} (h : y ∈ D.set i x) : y = x ∨ y ∈ D := (List.mem_or_eq_of_mem_set h).symm
theorem TPost.drew {g : Nat} {w w' : World} {A : Option Addr} {k : Int} {t : Tk} {e : Ending} (h : TPost g w A k t e w') : TPost g w A k t e w'.drew := by
  obtain ⟨h1, A', h2, h3, h4⟩ := h
  exact ⟨h1, A', h2.keep0 (Keep.refl _ _ _).drew, h3.drew, h4⟩
/-- the two stores of Take -/
theorem take_post {w w1 : World} {g b i : Nat} {t : Tk} {x : Is} {gg cc : Int} (hgl : g < w.heap.size) (hk1 : Keep w.heap.size [g] w w1) (ht : Tr w1 g (some ⟨b, 0, none⟩) t) (hx : t.D[i]? = some x) :
    TPost g w (some ⟨b, 0, none⟩) 0 ⟨t.now, t.to, t.D.set i ⟨x.s, x.n, x.t, gg, cc⟩⟩ (.returned (.int .i64 0)) ((w1.setCell ⟨b, i * 5 + 3, none⟩ (.int .i64 gg)).setCell ⟨b, i * 5 + 4, none⟩ (.int .i64 cc)) := by
  obtain ⟨m, c, hm, hb, hs, hok, hmx⟩ := ht
  have hne := hs.ne_blk hb (by decide)
  have hne' : g ≠ b := by simpa [blks] using hne
  have s1 := (World.ownsRow.stored hs (i * 5 + 3) (.int .i64 gg)).1
  have s2 := (World.ownsRow.stored s1 (i * 5 + 4) (.int .i64 cc)).1
  refine ⟨rfl, some ⟨b, 0, none⟩, ⟨m, c, by simp [hm], (hb.far hne' _).far hne' _, ?_, ⟨hok.1, hok.2.1, ?_⟩, hmx⟩, ?_, fun x hx => .inl hx⟩
  · have e := iflat_set t.D i x ⟨x.s, x.n, x.t, gg, cc⟩ hx rfl rfl rfl
    simp only at e
    simp only
    rw [← e]
    exact s2
  · intro y hy
    rcases mem_set_is hy with rfl | h
    · exact hok.2.2 x (List.mem_of_getElem? hx)
    · exact hok.2.2 y h
  · exact (((hk1.weaken (S' := g :: blks (some ⟨b, 0, none⟩)) (fun x hx => by simp_all)).setS (by simp [blks])).setS (by simp [blks]))
set_option maxRecDepth 100000 in
set_option maxHeartbeats 4000000 in
theorem take_any (w : World) (g : Nat) (A : Option Addr) (t t' : Tk) (a : Ak) (now k : Int) (hr : takeP t a now = (k, t')) (h : Tr w g A t) :
    Calls Try.prog 15 #[bptr g, aagg a, .int .i64 now] w (TPost g w A k t') := by
  have HT := Lib.hid (h.keep0 ((Keep.refl w.heap.size [] w).alloc (Nat.le_refl _) (abox a)))
  have hgl := Lib.hid h.lt
  have HA := Lib.hid (show ∀ x, x ∈ blks A → x < w.heap.size from by obtain ⟨_, _, _, _, hs, _⟩ := h; exact fun x hx => hs.blk hx)
  have h0 : (w.alloc (abox a)).cell? ⟨g, 0, none⟩ = some (.bool true) := by obtain ⟨_, _, _, hb, _⟩ := h; exact (hb.alloc _).cell 0
  clear h
  have HR := Lib.hid hr
  clear hr
  obtain ⟨nw, hnw⟩ : ∃ nw, adv t.now now = nw := ⟨_, rfl⟩
  have HN := Lib.hid hnw
  clear hnw
  go_enter Try.func15, Try.ntmps15
  go_wp2_with fail
  refine (tvalid_any _ g (by exact h0)).mono ?_
  rintro e w' ⟨rfl, rfl⟩
  go_wp2_with fail
  refine (tadv_any _ g A t now nw HN.out (by exact HT.out)).mono ?_
  rintro e w1 ⟨rfl, ht1, hk1⟩
  have hbx : Blk w1 w.heap.size 39 (acells a) := (Blk.new w _ _).keepS hk1 (by have := hgl.out; simp; omega)
  have hk1' : Keep w.heap.size [g] w w1 := ((Keep.refl w.heap.size [g] w).alloc (Nat.le_refl _) (abox a)).trans (hk1.mono ((Keep.refl w.heap.size [] w).alloc (Nat.le_refl _) (abox a)).size (fun x _ hx => hx))
  have b0 : w1.cell? ⟨w.heap.size, 0, none⟩ = some (.int .i64 a.src) := hbx.cell 0
  have b1 : w1.cell? ⟨w.heap.size, 1, none⟩ = some (.int .i64 a.num) := hbx.cell 1
  have b2 : w1.cell? ⟨w.heap.size, 2, none⟩ = some (.int .i64 a.stg) := hbx.cell 2
  have b3 : w1.cell? ⟨w.heap.size, 3, none⟩ = some (.int .i64 a.cod) := hbx.cell 3
  have HBX := Lib.hid hbx
  have HT1 := Lib.hid ht1
  have HK1 := Lib.hid hk1'
  clear hbx ht1 hk1 hk1' h0
  have post : ∀ k, TPost g w A k ⟨nw, t.to, t.D⟩ (.returned (.int .i64 k)) (w1.alloc (abox a)) := fun k => ⟨rfl, A, HT1.out.keep0 ((Keep.refl _ _ _).alloc (Nat.le_refl _) _), (HK1.out.weaken (fun x hx => by simp_all)).alloc HK1.out.size _, fun x hx => .inl hx⟩
  have POST := Lib.hid post
  clear post
  cases hv : a.valid with
  | false =>
    have hq : k = 1 ∧ t' = ⟨nw, t.to, t.D⟩ := by
      have := HR.out
      unfold takeP at this
      rw [if_neg (by simp [hv]), HN.out] at this
      exact ⟨(Prod.mk.inj this).1.symm, (Prod.mk.inj this).2.symm⟩
    obtain ⟨rfl, rfl⟩ := hq
    have HV := Lib.hid hv
    clear hv
    go_wp2_with fail
    refine (valid_v _ a false HV.out).mono ?_
    rintro e w3 ⟨rfl, rfl⟩
    go_wp2_with fail
    go_ret
    exact POST.out 1
  | true =>
    have HV := Lib.hid hv
    clear hv
    go_wp2_with fail
    refine (valid_v _ a true HV.out).mono ?_
    rintro e w3 ⟨rfl, hw3⟩
    rw [hw3] at POST
    have hk3 : Keep w1.heap.size [] w1 w3 := hw3 ▸ (Keep.refl _ _ _).alloc (Nat.le_refl _) _
    have HT3 := Lib.hid (HT1.out.keep0 hk3)
    have HBX3 := HBX.out.keepS hk3 (by simp)
    clear b0 b1 b2 b3
    have b0 : w3.cell? ⟨w.heap.size, 0, none⟩ = some (.int .i64 a.src) := HBX3.cell 0
    have b1 : w3.cell? ⟨w.heap.size, 1, none⟩ = some (.int .i64 a.num) := HBX3.cell 1
    have b2 : w3.cell? ⟨w.heap.size, 2, none⟩ = some (.int .i64 a.stg) := HBX3.cell 2
    have b3 : w3.cell? ⟨w.heap.size, 3, none⟩ = some (.int .i64 a.cod) := HBX3.cell 3
    have HK3 : Hid (Keep w.heap.size [g] w w3) := Lib.hid (HK1.out.trans (hk3.mono HK1.out.size (by simp)))
    have HB3 := Lib.hid HBX3
    clear hw3 hk3 HBX3
    obtain ⟨r, hfr⟩ : ∃ r, findI t.D a.src a.num = r := ⟨_, rfl⟩
    have HF := Lib.hid hfr
    clear hfr
    go_wp2_with fail
    refine (find_any _ g A ⟨nw, t.to, t.D⟩ a.src a.num r HF.out HT3.out).mono ?_
    rintro e w2 ⟨rfl, rfl⟩
    cases r with
    | none =>
      have hq : k = 8 ∧ t' = ⟨nw, t.to, t.D⟩ := by
        have := HR.out
        unfold takeP at this
        rw [if_pos HV.out, HF.out, HN.out] at this
        exact ⟨(Prod.mk.inj this).1.symm, (Prod.mk.inj this).2.symm⟩
      obtain ⟨rfl, rfl⟩ := hq
      have hp : ptrI A none = .pointer none := by cases A <;> rfl
      rw [hp]
      clear hp
      go_wp2_with fail
      go_ret
      exact POST.out 8
    | some i =>
      obtain ⟨b, x, hA, hx, _⟩ := HT3.out.nonnil HF.out
      subst hA
      obtain ⟨m, c, hm, hbk, hs, _⟩ := HT3.out
      obtain ⟨b', hA', _, hc⟩ := hs.icell hm hx
      cases hA'
      have q3 : w3.cell? ⟨b, i * 5 + 3, none⟩ = some (.int .i64 x.g) := hc 3 _ rfl
      have q4 : w3.cell? ⟨b, i * 5 + 4, none⟩ = some (.int .i64 x.c) := hc 4 _ rfl
      have f3 : w3.frozen? ⟨b, i * 5 + 3, none⟩ = false := World.ownsRow.frozenAt hs _
      have f4 : w3.frozen? ⟨b, i * 5 + 4, none⟩ = false := World.ownsRow.frozenAt hs _
      have hp : ptrI (some ⟨b, 0, none⟩) (some i) = .pointer (some ⟨b, i * 5, none⟩) := rfl
      have hbw : w.heap.size ≠ b := by have := HA.out b (by simp [blks]); omega
      have HX := Lib.hid hx
      clear hbk hs hc hm hx
      rw [hp]
      clear hp
      obtain ⟨fo, hfo⟩ : ∃ fo, follows x.g a.stg = fo := ⟨_, rfl⟩
      have HFO := Lib.hid hfo
      clear hfo
      go_wp2_with fail
      cases fo with
      | true =>
        have hq : k = 0 ∧ t' = ⟨nw, t.to, t.D.set i ⟨x.s, x.n, x.t, a.stg, a.cod⟩⟩ := by
          have := HR.out
          unfold takeP at this
          have hx := HX.out
          rw [if_pos HV.out, HF.out] at this
          simp only [hx, HFO.out, if_pos, HN.out] at this
          exact ⟨(Prod.mk.inj this).1.symm, (Prod.mk.inj this).2.symm⟩
        obtain ⟨rfl, rfl⟩ := hq
        have TP := Lib.hid (take_post (gg := a.stg) (cc := a.cod) hgl.out HK3.out HT3.out HX.out)
        refine wp_region_held_drew (S := (fun w' => w'.cell? ⟨b, i * 5 + 3, none⟩ = some (.int .i64 x.g) ∧ w'.cell? ⟨w.heap.size, 2, none⟩ = some (.int .i64 a.stg))) (by kernel_rfl) (by exact ⟨q3, b2⟩) (fun hHeld => ?_)
        refine wpAnyH_take (i := 0) (oi := { dst := some 25, op := Op.move (Operand.tmp 7), type := 106, pos := _, after := #[], guard := none }) (v := _) rfl (by kernel_rfl) (by kernel_rfl) (by kernel_rfl) (fun _ _ _ h => h) (Or.inl ⟨by rfl, by (intro wS hSw; (try dsimp only at hSw); go_simp; try with_reducible rfl)⟩) (by assumption) ?_
        (try simp only [Act.put, List.setIfInBounds_toArray, List.set_cons_zero, List.set_cons_succ])
        refine wpAnyH_take (i := 1) (oi := { dst := some 26, op := Op.nilCheck (Operand.tmp 25), type := 0, pos := _, after := #[{ on := 0, ground := Ground.data }], guard := none }) (v := _) rfl (by kernel_rfl) (by kernel_rfl) (by kernel_rfl) (fun _ _ _ h => h) (Or.inl ⟨by rfl, by (intro wS hSw; (try dsimp only at hSw); go_simp; try with_reducible rfl)⟩) (by assumption) ?_
        (try simp only [Act.put, List.setIfInBounds_toArray, List.set_cons_zero, List.set_cons_succ])
        refine wpAnyH_take (i := 2) (oi := { dst := some 27, op := Op.fieldAddr 109 (Operand.tmp 26) 3, type := 0, pos := _, after := #[{ on := 1, ground := Ground.data }], guard := none }) (v := _) rfl (by kernel_rfl) (by kernel_rfl) (by kernel_rfl) (fun _ _ _ h => h) (Or.inl ⟨by rfl, by (intro wS hSw; (try dsimp only at hSw); go_simp; try with_reducible rfl)⟩) (by assumption) ?_
        (try simp only [Act.put, List.setIfInBounds_toArray, List.set_cons_zero, List.set_cons_succ])
        refine wpAnyH_take (i := 3) (oi := { dst := some 28, op := Op.load 3 (Operand.tmp 27), type := 3, pos := _, after := #[{ on := 2, ground := Ground.data }], guard := none }) (v := _) rfl (by kernel_rfl) (by kernel_rfl) (by kernel_rfl) (fun _ _ _ h => h) (Or.inl ⟨by rfl, by (intro wS hSw; (try dsimp only at hSw); go_simp; try with_reducible rfl)⟩) (by assumption) ?_
        (try simp only [Act.put, List.setIfInBounds_toArray, List.set_cons_zero, List.set_cons_succ])
        refine wpAnyH_take (i := 4) (oi := { dst := some 29, op := Op.fieldAddr 39 (Operand.tmp 4) 2, type := 0, pos := _, after := #[], guard := none }) (v := _) rfl (by kernel_rfl) (by kernel_rfl) (by kernel_rfl) (fun _ _ _ h => h) (Or.inl ⟨by rfl, by (intro wS hSw; (try dsimp only at hSw); go_simp; try with_reducible rfl)⟩) (by assumption) ?_
        (try simp only [Act.put, List.setIfInBounds_toArray, List.set_cons_zero, List.set_cons_succ])
        refine wpAnyH_take (i := 5) (oi := { dst := some 30, op := Op.load 3 (Operand.tmp 29), type := 3, pos := _, after := #[{ on := 4, ground := Ground.data }], guard := none }) (v := _) rfl (by kernel_rfl) (by kernel_rfl) (by kernel_rfl) (fun _ _ _ h => h) (Or.inl ⟨by rfl, by (intro wS hSw; (try dsimp only at hSw); go_simp; try with_reducible rfl)⟩) (by assumption) ?_
        (try simp only [Act.put, List.setIfInBounds_toArray, List.set_cons_zero, List.set_cons_succ])
        refine wpAnyH_ready (rs := [6]) (by kernel_rfl) (by simp) ?_
        refine AllReadyH.cons (o := { dst := some 31, op := Op.call { callee := Callee.value (Operand.func 54), args := #[Operand.tmp 28, Operand.tmp 30], argTypes := #[3, 3] }, type := 4, pos := _, after := #[{ on := 3, ground := Ground.data }, { on := 5, ground := Ground.data }], guard := none }) rfl (fun K hK => ?_) AllReadyH.nil
        go_simp
        refine (follows_v _ x.g a.stg true (by exact HFO.out)).mono ?_
        rintro e w5 ⟨rfl, rfl⟩
        refine hK.out _ _ (by exact ⟨q3, b2⟩) (fun hHeld => ?_)
        clear hK K
        (try simp only [Act.put, List.setIfInBounds_toArray, List.set_cons_zero, List.set_cons_succ])
        refine wpAnyH_take (i := 7) (oi := { dst := some 32, op := Op.unOp UnOp.not 4 (Operand.tmp 31), type := 4, pos := _, after := #[{ on := 6, ground := Ground.data }], guard := none }) (v := _) rfl (by kernel_rfl) (by kernel_rfl) (by kernel_rfl) (fun _ _ _ h => h) (Or.inl ⟨by rfl, by (intro wS hSw; (try dsimp only at hSw); go_simp; try with_reducible rfl)⟩) (by assumption) ?_
        (try simp only [Act.put, List.setIfInBounds_toArray, List.set_cons_zero, List.set_cons_succ])
        refine wpAnyH_done (by kernel_rfl) ?_ _

        go_wp2_with fail
        go_ret
        exact TP.out.drew
      | false =>
        have hq : k = 12 ∧ t' = ⟨nw, t.to, t.D⟩ := by
          have := HR.out
          unfold takeP at this
          have hx := HX.out
          rw [if_pos HV.out, HF.out] at this
          simp only [hx, HFO.out, HN.out] at this
          exact ⟨(Prod.mk.inj this).1.symm, (Prod.mk.inj this).2.symm⟩
        obtain ⟨rfl, rfl⟩ := hq
        refine wp_region_held_drew (S := (fun w' => w'.cell? ⟨b, i * 5 + 3, none⟩ = some (.int .i64 x.g) ∧ w'.cell? ⟨w.heap.size, 2, none⟩ = some (.int .i64 a.stg))) (by kernel_rfl) (by exact ⟨q3, b2⟩) (fun hHeld => ?_)
        refine wpAnyH_take (i := 0) (oi := { dst := some 25, op := Op.move (Operand.tmp 7), type := 106, pos := _, after := #[], guard := none }) (v := _) rfl (by kernel_rfl) (by kernel_rfl) (by kernel_rfl) (fun _ _ _ h => h) (Or.inl ⟨by rfl, by (intro wS hSw; (try dsimp only at hSw); go_simp; try with_reducible rfl)⟩) (by assumption) ?_
        (try simp only [Act.put, List.setIfInBounds_toArray, List.set_cons_zero, List.set_cons_succ])
        refine wpAnyH_take (i := 1) (oi := { dst := some 26, op := Op.nilCheck (Operand.tmp 25), type := 0, pos := _, after := #[{ on := 0, ground := Ground.data }], guard := none }) (v := _) rfl (by kernel_rfl) (by kernel_rfl) (by kernel_rfl) (fun _ _ _ h => h) (Or.inl ⟨by rfl, by (intro wS hSw; (try dsimp only at hSw); go_simp; try with_reducible rfl)⟩) (by assumption) ?_
        (try simp only [Act.put, List.setIfInBounds_toArray, List.set_cons_zero, List.set_cons_succ])
        refine wpAnyH_take (i := 2) (oi := { dst := some 27, op := Op.fieldAddr 109 (Operand.tmp 26) 3, type := 0, pos := _, after := #[{ on := 1, ground := Ground.data }], guard := none }) (v := _) rfl (by kernel_rfl) (by kernel_rfl) (by kernel_rfl) (fun _ _ _ h => h) (Or.inl ⟨by rfl, by (intro wS hSw; (try dsimp only at hSw); go_simp; try with_reducible rfl)⟩) (by assumption) ?_
        (try simp only [Act.put, List.setIfInBounds_toArray, List.set_cons_zero, List.set_cons_succ])
        refine wpAnyH_take (i := 3) (oi := { dst := some 28, op := Op.load 3 (Operand.tmp 27), type := 3, pos := _, after := #[{ on := 2, ground := Ground.data }], guard := none }) (v := _) rfl (by kernel_rfl) (by kernel_rfl) (by kernel_rfl) (fun _ _ _ h => h) (Or.inl ⟨by rfl, by (intro wS hSw; (try dsimp only at hSw); go_simp; try with_reducible rfl)⟩) (by assumption) ?_
        (try simp only [Act.put, List.setIfInBounds_toArray, List.set_cons_zero, List.set_cons_succ])
        refine wpAnyH_take (i := 4) (oi := { dst := some 29, op := Op.fieldAddr 39 (Operand.tmp 4) 2, type := 0, pos := _, after := #[], guard := none }) (v := _) rfl (by kernel_rfl) (by kernel_rfl) (by kernel_rfl) (fun _ _ _ h => h) (Or.inl ⟨by rfl, by (intro wS hSw; (try dsimp only at hSw); go_simp; try with_reducible rfl)⟩) (by assumption) ?_
        (try simp only [Act.put, List.setIfInBounds_toArray, List.set_cons_zero, List.set_cons_succ])
        refine wpAnyH_take (i := 5) (oi := { dst := some 30, op := Op.load 3 (Operand.tmp 29), type := 3, pos := _, after := #[{ on := 4, ground := Ground.data }], guard := none }) (v := _) rfl (by kernel_rfl) (by kernel_rfl) (by kernel_rfl) (fun _ _ _ h => h) (Or.inl ⟨by rfl, by (intro wS hSw; (try dsimp only at hSw); go_simp; try with_reducible rfl)⟩) (by assumption) ?_
        (try simp only [Act.put, List.setIfInBounds_toArray, List.set_cons_zero, List.set_cons_succ])
        refine wpAnyH_ready (rs := [6]) (by kernel_rfl) (by simp) ?_
        refine AllReadyH.cons (o := { dst := some 31, op := Op.call { callee := Callee.value (Operand.func 54), args := #[Operand.tmp 28, Operand.tmp 30], argTypes := #[3, 3] }, type := 4, pos := _, after := #[{ on := 3, ground := Ground.data }, { on := 5, ground := Ground.data }], guard := none }) rfl (fun K hK => ?_) AllReadyH.nil
        go_simp
        refine (follows_v _ x.g a.stg false (by exact HFO.out)).mono ?_
        rintro e w5 ⟨rfl, rfl⟩
        refine hK.out _ _ (by exact ⟨q3, b2⟩) (fun hHeld => ?_)
        clear hK K
        (try simp only [Act.put, List.setIfInBounds_toArray, List.set_cons_zero, List.set_cons_succ])
        refine wpAnyH_take (i := 7) (oi := { dst := some 32, op := Op.unOp UnOp.not 4 (Operand.tmp 31), type := 4, pos := _, after := #[{ on := 6, ground := Ground.data }], guard := none }) (v := _) rfl (by kernel_rfl) (by kernel_rfl) (by kernel_rfl) (fun _ _ _ h => h) (Or.inl ⟨by rfl, by (intro wS hSw; (try dsimp only at hSw); go_simp; try with_reducible rfl)⟩) (by assumption) ?_
        (try simp only [Act.put, List.setIfInBounds_toArray, List.set_cons_zero, List.set_cons_succ])
        refine wpAnyH_done (by kernel_rfl) ?_ _

        go_wp2_with fail
        go_ret
        exact (POST.out 12).drew
end Go.Proofs.Ytfkbcflgbjncdaa
