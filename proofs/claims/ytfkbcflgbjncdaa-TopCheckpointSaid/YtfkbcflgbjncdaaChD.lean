/- The checkpoint: Valid, of one without entries and sides. -/
import Derived.Test.YtfkbcflgbjncdaaChC
import Derived.Deep.DeepCutAuto
namespace Go.Proofs.Ytfkbcflgbjncdaa
set_option linter.unusedVariables false
set_option linter.unusedSimpArgs false
open Go.RowKit
abbrev TC : TypeId := 64
structure Ck where
  boots : Int
  mode : Int
  time : Int
  next : Int
  led : List Rc
  done : List Fi
/-- where its parts lie -/
structure CL where
  X : Option Addr
  m : Nat
  c : Nat
  Y : Option Addr
  n : Nat
  d : Nat
def ccs (c : Ck) (l : CL) : Array Value := #[.int .i64 c.boots, .int .i64 c.mode, .int .i64 c.time, .slice l.X l.m l.c, .slice none 0 0, .slice none 0 0, .slice l.Y l.n l.d, .int .i64 c.next]
structure CIn (w : World) (c : Ck) (l : CL) : Prop where
  vl : Vw w l.X l.m 1 (octs (imageL c.led))
  vd : Vw w l.Y l.n 2 (c.done.flatMap fcells)
  cm : l.m ≤ l.c ∧ l.c ≤ maxLen
  cd : l.n ≤ l.d ∧ l.d ≤ maxLen
  l16 : c.led.length = 16
  lok : ∀ r ∈ c.led, RcOk r
  lrt : ∀ r ∈ c.led, rightB r = true
  dn : l.n ≤ 256
theorem CIn.keep0 {w w' : World} {c : Ck} {l : CL} (h : CIn w c l) (k : Keep w.heap.size [] w w') : CIn w' c l := ⟨h.vl.keep0 k, h.vd.keep0 k, h.cm, h.cd, h.l16, h.lok, h.lrt, h.dn⟩
theorem CIn.m160 {w : World} {c : Ck} {l : CL} (h : CIn w c l) : l.m = 160 := by have h1 := h.vl.1; have h2 := imageL_len c.led; rw [h.l16] at h2; simp [octs] at h1; omega
theorem CIn.dlen {w : World} {c : Ck} {l : CL} (h : CIn w c l) : l.n = c.done.length := by have := h.vd.1; rw [fcells_len] at this; omega
def doneOne (L : List Fi) (j : Nat) : Bool := match L[j]? with | some f => idB f && !decide (f ∈ L.take j) | none => true
def doneB (L : List Fi) : Bool := (List.range L.length).all (doneOne L)
theorem doneB_no {L : List Fi} {j : Nat} {f : Fi} (h : L[j]? = some f) (hb : idB f = false ∨ f ∈ L.take j) : doneB L = false := by
  have hj : j < L.length := (List.getElem?_eq_some_iff.1 h).1
  cases hd : doneB L with
  | false => rfl
  | true =>
    have h1 := List.all_eq_true.1 hd j (List.mem_range.2 hj)
    unfold doneOne at h1
    rw [h] at h1
    simp only [Bool.and_eq_true, Bool.not_eq_true', decide_eq_false_iff_not] at h1
    rcases hb with hb | hb
    · rw [hb] at h1; cases h1.1
    · exact absurd hb h1.2
theorem doneB_yes {L : List Fi} (h : ∀ j f, L[j]? = some f → idB f = true ∧ f ∉ L.take j) : doneB L = true := by
  refine List.all_eq_true.2 fun j hj => ?_
  unfold doneOne
  have hlt := List.mem_range.1 hj
  have hg : L[j]? = some L[j] := List.getElem?_eq_getElem hlt
  obtain ⟨h1, h2⟩ := h j _ hg
  rw [hg]
  simp only [h1, Bool.true_and, Bool.not_eq_true', decide_eq_false_iff_not]
  exact h2
def ckOk (c : Ck) : Bool := inB c.boots 0 2147483647 && (inB c.mode 0 4 && (inB c.time 0 1099511627776 && (inB c.next 1 65536 && doneB c.done)))
def BPost (w : World) (v : Bool) (e : Ending) (w' : World) : Prop := e = .returned (.bool v) ∧ Keep w.heap.size [] w w'
set_option maxRecDepth 100000 in
set_option maxHeartbeats 8000000 in
theorem cvalid_b (w : World) (c : Ck) (l : CL) (v : Bool) (hp : CIn w c l) (hv : ckOk c = v) : Calls Try.prog 107 #[.agg (ccs c l)] w (BPost w v) := by
  obtain ⟨X, m, cc, Y, n, d⟩ := l
  have k1 : Keep w.heap.size [] w (w.alloc (.cells (ccs c ⟨X, m, cc, Y, n, d⟩) TC)) := (Keep.refl _ _ w).alloc (Nat.le_refl _) _
  have hb := Blk.new w TC (ccs c ⟨X, m, cc, Y, n, d⟩)
  obtain ⟨W0, hW0⟩ : ∃ W0, W0 = w.alloc (.cells (ccs c ⟨X, m, cc, Y, n, d⟩) TC) := ⟨_, rfl⟩
  rw [← hW0] at hb k1
  obtain ⟨p, hpp⟩ : ∃ p, p = w.heap.size := ⟨_, rfl⟩
  rw [← hpp] at hb
  have hp0 : w.heap.size ≤ p := by omega
  have K0 := Lib.hid k1
  have B0 := Lib.hid hb
  have P0 := Lib.hid (hp.keep0 k1)
  have HV := Lib.hid hv
  clear k1 hb hp hv
  go_enter Try.func107, Try.ntmps107
  go_upto_region 1 with fail
  change Code.wp _ _ _ _ (w.alloc (.cells (ccs c ⟨X, m, cc, Y, n, d⟩) TC))
  rw [← hW0, ← hpp]
  clear hW0 hpp
  have c0 : W0.cell? ⟨p, 0, none⟩ = some (.int .i64 c.boots) := B0.out.cell 0
  have c1 : W0.cell? ⟨p, 1, none⟩ = some (.int .i64 c.mode) := B0.out.cell 1
  have c2 : W0.cell? ⟨p, 2, none⟩ = some (.int .i64 c.time) := B0.out.cell 2
  have c5 : W0.cell? ⟨p, 5, none⟩ = some (.slice none 0 0) := B0.out.cell 5
  have c6 : W0.cell? ⟨p, 6, none⟩ = some (.slice Y n d) := B0.out.cell 6
  have c7 : W0.cell? ⟨p, 7, none⟩ = some (.int .i64 c.next) := B0.out.cell 7
  cases h0 : inB c.boots 0 2147483647 with
  | false =>
    have ev : v = false := by rw [← HV.out]; unfold ckOk; rw [h0]; rfl
    subst ev
    have H0 := Lib.hid h0
    clear h0
    go_wp2_with fail
    refine (cwithin_b _ _ _ _ false H0.out).mono ?_
    rintro e w' ⟨rfl, rfl⟩
    go_wp2_with fail
    go_ret
    exact ⟨rfl, K0.out⟩
  | true =>
    cases h1 : inB c.mode 0 4 with
    | false =>
      have ev : v = false := by rw [← HV.out]; unfold ckOk; rw [h0, h1]; rfl
      subst ev
      have H0 := Lib.hid h0
      have H1 := Lib.hid h1
      clear h0 h1
      go_wp2_with fail
      refine (cwithin_b _ _ _ _ true H0.out).mono ?_
      rintro e w' ⟨rfl, rfl⟩
      go_wp2_with fail
      refine (cwithin_b _ _ _ _ false H1.out).mono ?_
      rintro e w' ⟨rfl, rfl⟩
      go_wp2_with fail
      go_ret
      exact ⟨rfl, K0.out⟩
    | true =>
      cases h2 : inB c.time 0 1099511627776 with
      | false =>
        have ev : v = false := by rw [← HV.out]; unfold ckOk; rw [h0, h1, h2]; rfl
        subst ev
        have H0 := Lib.hid h0
        have H1 := Lib.hid h1
        have H2 := Lib.hid h2
        clear h0 h1 h2
        go_wp2_with fail
        refine (cwithin_b _ _ _ _ true H0.out).mono ?_
        rintro e w' ⟨rfl, rfl⟩
        go_wp2_with fail
        refine (cwithin_b _ _ _ _ true H1.out).mono ?_
        rintro e w' ⟨rfl, rfl⟩
        go_wp2_with fail
        refine (cwithin_b _ _ _ _ false H2.out).mono ?_
        rintro e w' ⟨rfl, rfl⟩
        go_wp2_with fail
        go_ret
        exact ⟨rfl, K0.out⟩
      | true =>
        cases h3 : inB c.next 1 65536 with
        | false =>
          have ev : v = false := by rw [← HV.out]; unfold ckOk; rw [h0, h1, h2, h3]; rfl
          subst ev
          have H0 := Lib.hid h0
          have H1 := Lib.hid h1
          have H2 := Lib.hid h2
          have H3 := Lib.hid h3
          clear h0 h1 h2 h3
          go_wp2_with fail
          refine (cwithin_b _ _ _ _ true H0.out).mono ?_
          rintro e w' ⟨rfl, rfl⟩
          go_wp2_with fail
          refine (cwithin_b _ _ _ _ true H1.out).mono ?_
          rintro e w' ⟨rfl, rfl⟩
          go_wp2_with fail
          refine (cwithin_b _ _ _ _ true H2.out).mono ?_
          rintro e w' ⟨rfl, rfl⟩
          go_wp2_with fail
          refine (cwithin_b _ _ _ _ false H3.out).mono ?_
          rintro e w' ⟨rfl, rfl⟩
          go_wp2_with fail
          go_ret
          exact ⟨rfl, K0.out⟩
        | true =>
          have ev : doneB c.done = v := by rw [← HV.out]; unfold ckOk; rw [h0, h1, h2, h3]; rfl
          have HD := Lib.hid ev
          have H0 := Lib.hid h0
          have H1 := Lib.hid h1
          have H2 := Lib.hid h2
          have H3 := Lib.hid h3
          clear ev h0 h1 h2 h3
          have HN : Hid (n = c.done.length) := Lib.hid P0.out.dlen
          have hn256 : ¬ (256 : Int) < (n : Int) := by have h : n ≤ 256 := P0.out.dn; omega
          go_wp2_with fail
          refine (cwithin_b _ _ _ _ true H0.out).mono ?_
          rintro e w' ⟨rfl, rfl⟩
          go_wp2_with fail
          refine (cwithin_b _ _ _ _ true H1.out).mono ?_
          rintro e w' ⟨rfl, rfl⟩
          go_wp2_with fail
          refine (cwithin_b _ _ _ _ true H2.out).mono ?_
          rintro e w' ⟨rfl, rfl⟩
          go_wp2_with fail
          refine (cwithin_b _ _ _ _ true H3.out).mono ?_
          rintro e w' ⟨rfl, rfl⟩
          go_wp2_with fail
          go_loopw [46] (fun j wr => j = .int .i64 0 ∧ wr = W0) (fun _ _ => 0)
          case atStart => exact ⟨rfl, rfl⟩
          case round =>
            obtain ⟨rfl, hwr⟩ := hrel
            rw [hwr]
            clear hwr wr
            go_wp2_with fail
            go_loopw [57] (fun j wr' => ∃ (k : Nat), k ≤ n ∧ j = .int .i64 k ∧ (∀ i f, i < k → c.done[i]? = some f → idB f = true ∧ f ∉ c.done.take i) ∧ Keep w.heap.size [] w wr' ∧ Keep W0.heap.size [] W0 wr') (fun j _ => n - (intOf j).toNat)
            case atStart => exact ⟨0, Nat.zero_le _, rfl, fun i f h => absurd h (Nat.not_lt_zero _), K0.out, Keep.refl _ _ _⟩
            case round =>
              obtain ⟨k, hk, rfl, hgd, hkw, hkv⟩ := hrel
              have GD := Lib.hid hgd
              have KW := Lib.hid hkw
              have KV := Lib.hid hkv
              have BW := Lib.hid (B0.out.keepS KV.out (by simp))
              have PW := Lib.hid (P0.out.keep0 KV.out)
              clear hgd hkw hkv
              by_cases hlt : k < n
              · have hki : (k : Int) < (n : Int) := by omega
                obtain ⟨b, o, x, rfl, hxk, d0, d1⟩ := fi_at (G := Y) (n := n) (by exact PW.out.vd) hlt
                have hkd : (k : Int) ≤ (d : Int) := by have h : n ≤ d := PW.out.cd.1; omega
                have hdI : (d : Int) ≤ 9223372036854775807 := by have h : d ≤ maxLen := PW.out.cd.2; unfold maxLen at h; omega
                obtain ⟨W1, hW1⟩ : ∃ W, W = wr.alloc (.cells #[.int .i64 x.s, .int .i64 x.n] TF) := ⟨_, rfl⟩
                obtain ⟨q, hq⟩ : ∃ q, q = wr.heap.size := ⟨_, rfl⟩
                have ka : Keep wr.heap.size [] wr W1 := by rw [hW1]; exact (Keep.refl _ _ _).alloc (Nat.le_refl _) _
                have hbq : Blk W1 q TF #[.int .i64 x.s, .int .i64 x.n] := by rw [hW1, hq]; exact Blk.new _ _ _
                have K1 := Lib.hid (KW.out.chain0 (Nat.le_refl _) ka)
                have KV1 := Lib.hid (KV.out.chain0 (Nat.le_refl _) ka)
                have B1 := Lib.hid (BW.out.keepS ka (by simp))
                have P1 := Lib.hid (PW.out.keep0 ka)
                have Q1 := Lib.hid hbq
                have HXK := Lib.hid hxk
                clear ka hbq hxk
                go_upto_region 14 with fail
                change Code.wp _ _ _ _ (wr.alloc (.cells #[.int .i64 x.s, .int .i64 x.n] TF))
                rw [← hW1, ← hq]
                clear hW1 hq
                have y0 : W1.drew.cell? ⟨q, 0, none⟩ = some (.int .i64 x.s) ∧ W1.drew.cell? ⟨q, 1, none⟩ = some (.int .i64 x.n) ∧ W1.drew.cell? ⟨p, 6, none⟩ = some (.slice (some ⟨b, o, none⟩) n d) := ⟨Q1.out.cell 0, Q1.out.cell 1, B1.out.cell 6⟩
                have BAD : Hid (idB x = false ∨ x ∈ c.done.take k → v = false) := Lib.hid (fun h => by rw [← HD.out]; exact doneB_no HXK.out h)
                cases hid : idB x with
                | false =>
                  have ev := BAD.out (.inl hid)
                  subst ev
                  have HID := Lib.hid hid
                  clear hid
                  refine wp_region_held_drew (S := (fun w' => w'.cell? ⟨q, 0, none⟩ = some (.int .i64 x.s) ∧ w'.cell? ⟨q, 1, none⟩ = some (.int .i64 x.n) ∧ w'.cell? ⟨p, 6, none⟩ = some (.slice (some ⟨b, o, none⟩) n d))) (by kernel_rfl) (by exact y0) (fun hHeld => ?_)
                  refine wpAnyH_take (i := 0) (oi := { dst := some 62, op := Op.load 75 (Operand.tmp 6), type := 75, pos := _, after := #[], guard := none }) (v := _) rfl (by kernel_rfl) (by kernel_rfl) (by kernel_rfl) (fun _ _ _ h => h) (Or.inl ⟨by rfl, by (intro wS hSw; (try dsimp only at hSw); go_simp; try with_reducible rfl)⟩) (by assumption) ?_
                  (try simp only [Act.put, List.setIfInBounds_toArray, List.set_cons_zero, List.set_cons_succ])
                  refine wpAnyH_ready (rs := [1]) (by kernel_rfl) (by simp) ?_
                  refine AllReadyH.cons (o := { dst := some 63, op := Op.call { callee := Callee.value (Operand.func 140), args := #[Operand.tmp 62], argTypes := #[75] }, type := 4, pos := _, after := #[{ on := 0, ground := Ground.data }], guard := none }) rfl (fun K hK => ?_) AllReadyH.nil
                  go_simp
                  refine (cid_b _ x false HID.out).mono ?_
                  rintro e w2 ⟨rfl, hk2⟩
                  have k2 : Keep W1.heap.size [] W1 w2 := hk2.undrew
                  have K2 := Lib.hid (K1.out.chain0 (Nat.le_refl _) k2)
                  have KV2 := Lib.hid (KV1.out.chain0 (Nat.le_refl _) k2)
                  have Q2 := Lib.hid (Q1.out.keepS k2 (by simp))
                  have B2 := Lib.hid (B1.out.keepS k2 (by simp))
                  skip
                  have y2 : w2.cell? ⟨q, 0, none⟩ = some (.int .i64 x.s) ∧ w2.cell? ⟨q, 1, none⟩ = some (.int .i64 x.n) ∧ w2.cell? ⟨p, 6, none⟩ = some (.slice (some ⟨b, o, none⟩) n d) := ⟨Q2.out.cell 0, Q2.out.cell 1, B2.out.cell 6⟩
                  clear hk2 k2
                  refine hK.out _ _ (by exact y2) (fun hHeld => ?_)
                  clear hK K
                  (try simp only [Act.put, List.setIfInBounds_toArray, List.set_cons_zero, List.set_cons_succ])
                  refine wpAnyH_take (i := 2) (oi := { dst := some 64, op := Op.unOp UnOp.not 4 (Operand.tmp 63), type := 4, pos := _, after := #[{ on := 1, ground := Ground.data }], guard := none }) (v := _) rfl (by kernel_rfl) (by kernel_rfl) (by kernel_rfl) (fun _ _ _ h => h) (Or.inl ⟨by rfl, by (intro wS hSw; (try dsimp only at hSw); go_simp; try with_reducible rfl)⟩) (by assumption) ?_
                  (try simp only [Act.put, List.setIfInBounds_toArray, List.set_cons_zero, List.set_cons_succ])
                  refine wpAnyH_take (i := 3) (oi := { dst := some 65, op := Op.move (Operand.tmp 64), type := 4, pos := _, after := #[{ on := 2, ground := Ground.data }, { on := 1, ground := Ground.chain }], guard := none }) (v := _) rfl (by kernel_rfl) (by kernel_rfl) (by kernel_rfl) (fun _ _ _ h => h) (Or.inl ⟨by rfl, by (intro wS hSw; (try dsimp only at hSw); go_simp; try with_reducible rfl)⟩) (by assumption) ?_
                  (try simp only [Act.put, List.setIfInBounds_toArray, List.set_cons_zero, List.set_cons_succ])
                  refine wpAnyH_take (i := 4) (oi := { dst := some 66, op := Op.fieldAddr 64 (Operand.tmp 1) 6, type := 0, pos := _, after := #[{ on := 3, ground := Ground.guard }], guard := some (3, false) }) (v := undef) rfl (by kernel_rfl) (by kernel_rfl) (by kernel_rfl) (fun _ _ _ h => h) (Or.inr ⟨by rfl, rfl⟩) (by assumption) ?_
                  (try simp only [Act.put, List.setIfInBounds_toArray, List.set_cons_zero, List.set_cons_succ])
                  refine wpAnyH_take (i := 5) (oi := { dst := some 67, op := Op.load 47 (Operand.tmp 66), type := 47, pos := _, after := #[{ on := 4, ground := Ground.data }, { on := 3, ground := Ground.guard }], guard := some (3, false) }) (v := undef) rfl (by kernel_rfl) (by kernel_rfl) (by kernel_rfl) (fun _ _ _ h => h) (Or.inr ⟨by rfl, rfl⟩) (by assumption) ?_
                  (try simp only [Act.put, List.setIfInBounds_toArray, List.set_cons_zero, List.set_cons_succ])
                  refine wpAnyH_take (i := 6) (oi := { dst := some 68, op := Op.move (Operand.tmp 5), type := 3, pos := _, after := #[{ on := 3, ground := Ground.guard }], guard := some (3, false) }) (v := undef) rfl (by kernel_rfl) (by kernel_rfl) (by kernel_rfl) (fun _ _ _ h => h) (Or.inr ⟨by rfl, rfl⟩) (by assumption) ?_
                  (try simp only [Act.put, List.setIfInBounds_toArray, List.set_cons_zero, List.set_cons_succ])
                  refine wpAnyH_take (i := 7) (oi := { dst := some 69, op := Op.slice 47 (Operand.tmp 67) none (some (Operand.tmp 68)) none, type := 47, pos := _, after := #[{ on := 5, ground := Ground.data }, { on := 6, ground := Ground.data }, { on := 3, ground := Ground.guard }], guard := some (3, false) }) (v := undef) rfl (by kernel_rfl) (by kernel_rfl) (by kernel_rfl) (fun _ _ _ h => h) (Or.inr ⟨by rfl, rfl⟩) (by assumption) ?_
                  (try simp only [Act.put, List.setIfInBounds_toArray, List.set_cons_zero, List.set_cons_succ])
                  refine wpAnyH_take (i := 8) (oi := { dst := some 70, op := Op.load 75 (Operand.tmp 6), type := 75, pos := _, after := #[{ on := 3, ground := Ground.guard }], guard := some (3, false) }) (v := undef) rfl (by kernel_rfl) (by kernel_rfl) (by kernel_rfl) (fun _ _ _ h => h) (Or.inr ⟨by rfl, rfl⟩) (by assumption) ?_
                  (try simp only [Act.put, List.setIfInBounds_toArray, List.set_cons_zero, List.set_cons_succ])
                  refine wpAnyH_take (i := 9) (oi := { dst := some 71, op := Op.call { callee := Callee.value (Operand.func 141), args := #[Operand.tmp 69, Operand.tmp 70], argTypes := #[47, 75] }, type := 4, pos := _, after := #[{ on := 7, ground := Ground.data }, { on := 8, ground := Ground.data }, { on := 3, ground := Ground.chain }, { on := 3, ground := Ground.guard }], guard := some (3, false) }) (v := undef) rfl (by kernel_rfl) (by kernel_rfl) (by kernel_rfl) (fun _ _ _ h => h) (Or.inr ⟨by rfl, rfl⟩) (by assumption) ?_
                  (try simp only [Act.put, List.setIfInBounds_toArray, List.set_cons_zero, List.set_cons_succ])
                  refine wpAnyH_take (i := 10) (oi := { dst := some 72, op := Op.pick (Operand.tmp 65) (Operand.const (Value.bool true)) (Operand.tmp 71), type := 4, pos := _, after := #[{ on := 3, ground := Ground.data }, { on := 9, ground := Ground.data }], guard := none }) (v := _) rfl (by kernel_rfl) (by kernel_rfl) (by kernel_rfl) (fun _ _ _ h => h) (Or.inl ⟨by rfl, by (intro wS hSw; (try dsimp only at hSw); go_simp; try with_reducible rfl)⟩) (by assumption) ?_
                  (try simp only [Act.put, List.setIfInBounds_toArray, List.set_cons_zero, List.set_cons_succ])
                  refine wpAnyH_done (by kernel_rfl) ?_ _
                  go_wp2_with fail
                  go_ret
                  exact ⟨rfl, K2.out⟩
                | true =>
                  have HID := Lib.hid hid
                  clear hid
                  have VT := Lib.hid (vw2_take P1.out.vd (k := k) (by exact hk))
                  cases hcn : decide (x ∈ c.done.take k) with
                  | true =>
                    have ev := BAD.out (.inr (of_decide_eq_true hcn))
                    subst ev
                    have HCN := Lib.hid hcn
                    clear hcn
                    refine wp_region_held_drew (S := (fun w' => w'.cell? ⟨q, 0, none⟩ = some (.int .i64 x.s) ∧ w'.cell? ⟨q, 1, none⟩ = some (.int .i64 x.n) ∧ w'.cell? ⟨p, 6, none⟩ = some (.slice (some ⟨b, o, none⟩) n d))) (by kernel_rfl) (by exact y0) (fun hHeld => ?_)
                    refine wpAnyH_take (i := 0) (oi := { dst := some 62, op := Op.load 75 (Operand.tmp 6), type := 75, pos := _, after := #[], guard := none }) (v := _) rfl (by kernel_rfl) (by kernel_rfl) (by kernel_rfl) (fun _ _ _ h => h) (Or.inl ⟨by rfl, by (intro wS hSw; (try dsimp only at hSw); go_simp; try with_reducible rfl)⟩) (by assumption) ?_
                    (try simp only [Act.put, List.setIfInBounds_toArray, List.set_cons_zero, List.set_cons_succ])
                    refine wpAnyH_ready (rs := [1]) (by kernel_rfl) (by simp) ?_
                    refine AllReadyH.cons (o := { dst := some 63, op := Op.call { callee := Callee.value (Operand.func 140), args := #[Operand.tmp 62], argTypes := #[75] }, type := 4, pos := _, after := #[{ on := 0, ground := Ground.data }], guard := none }) rfl (fun K hK => ?_) AllReadyH.nil
                    go_simp
                    refine (cid_b _ x true HID.out).mono ?_
                    rintro e w2 ⟨rfl, hk2⟩
                    have k2 : Keep W1.heap.size [] W1 w2 := hk2.undrew
                    have K2 := Lib.hid (K1.out.chain0 (Nat.le_refl _) k2)
                    have KV2 := Lib.hid (KV1.out.chain0 (Nat.le_refl _) k2)
                    have Q2 := Lib.hid (Q1.out.keepS k2 (by simp))
                    have B2 := Lib.hid (B1.out.keepS k2 (by simp))
                    have V2 := Lib.hid (VT.out.keep0 k2)
                    have y2 : w2.cell? ⟨q, 0, none⟩ = some (.int .i64 x.s) ∧ w2.cell? ⟨q, 1, none⟩ = some (.int .i64 x.n) ∧ w2.cell? ⟨p, 6, none⟩ = some (.slice (some ⟨b, o, none⟩) n d) := ⟨Q2.out.cell 0, Q2.out.cell 1, B2.out.cell 6⟩
                    clear hk2 k2
                    refine hK.out _ _ (by exact y2) (fun hHeld => ?_)
                    clear hK K
                    (try simp only [Act.put, List.setIfInBounds_toArray, List.set_cons_zero, List.set_cons_succ])
                    refine wpAnyH_take (i := 2) (oi := { dst := some 64, op := Op.unOp UnOp.not 4 (Operand.tmp 63), type := 4, pos := _, after := #[{ on := 1, ground := Ground.data }], guard := none }) (v := _) rfl (by kernel_rfl) (by kernel_rfl) (by kernel_rfl) (fun _ _ _ h => h) (Or.inl ⟨by rfl, by (intro wS hSw; (try dsimp only at hSw); go_simp; try with_reducible rfl)⟩) (by assumption) ?_
                    (try simp only [Act.put, List.setIfInBounds_toArray, List.set_cons_zero, List.set_cons_succ])
                    refine wpAnyH_take (i := 3) (oi := { dst := some 65, op := Op.move (Operand.tmp 64), type := 4, pos := _, after := #[{ on := 2, ground := Ground.data }, { on := 1, ground := Ground.chain }], guard := none }) (v := _) rfl (by kernel_rfl) (by kernel_rfl) (by kernel_rfl) (fun _ _ _ h => h) (Or.inl ⟨by rfl, by (intro wS hSw; (try dsimp only at hSw); go_simp; try with_reducible rfl)⟩) (by assumption) ?_
                    (try simp only [Act.put, List.setIfInBounds_toArray, List.set_cons_zero, List.set_cons_succ])
                    refine wpAnyH_take (i := 4) (oi := { dst := some 66, op := Op.fieldAddr 64 (Operand.tmp 1) 6, type := 0, pos := _, after := #[{ on := 3, ground := Ground.guard }], guard := some (3, false) }) (v := _) rfl (by kernel_rfl) (by kernel_rfl) (by kernel_rfl) (fun _ _ _ h => h) (Or.inl ⟨by rfl, by (intro wS hSw; (try dsimp only at hSw); go_simp; try with_reducible rfl)⟩) (by assumption) ?_
                    (try simp only [Act.put, List.setIfInBounds_toArray, List.set_cons_zero, List.set_cons_succ])
                    refine wpAnyH_take (i := 5) (oi := { dst := some 67, op := Op.load 47 (Operand.tmp 66), type := 47, pos := _, after := #[{ on := 4, ground := Ground.data }, { on := 3, ground := Ground.guard }], guard := some (3, false) }) (v := _) rfl (by kernel_rfl) (by kernel_rfl) (by kernel_rfl) (fun _ _ _ h => h) (Or.inl ⟨by rfl, by (intro wS hSw; (try dsimp only at hSw); go_simp; try with_reducible rfl)⟩) (by assumption) ?_
                    (try simp only [Act.put, List.setIfInBounds_toArray, List.set_cons_zero, List.set_cons_succ])
                    refine wpAnyH_take (i := 6) (oi := { dst := some 68, op := Op.move (Operand.tmp 5), type := 3, pos := _, after := #[{ on := 3, ground := Ground.guard }], guard := some (3, false) }) (v := _) rfl (by kernel_rfl) (by kernel_rfl) (by kernel_rfl) (fun _ _ _ h => h) (Or.inl ⟨by rfl, by (intro wS hSw; (try dsimp only at hSw); go_simp; try with_reducible rfl)⟩) (by assumption) ?_
                    (try simp only [Act.put, List.setIfInBounds_toArray, List.set_cons_zero, List.set_cons_succ])
                    refine wpAnyH_take (i := 7) (oi := { dst := some 69, op := Op.slice 47 (Operand.tmp 67) none (some (Operand.tmp 68)) none, type := 47, pos := _, after := #[{ on := 5, ground := Ground.data }, { on := 6, ground := Ground.data }, { on := 3, ground := Ground.guard }], guard := some (3, false) }) (v := _) rfl (by kernel_rfl) (by kernel_rfl) (by kernel_rfl) (fun _ _ _ h => h) (Or.inl ⟨by rfl, by (intro wS hSw; (try dsimp only at hSw); go_simp; try with_reducible rfl)⟩) (by assumption) ?_
                    (try simp only [Act.put, List.setIfInBounds_toArray, List.set_cons_zero, List.set_cons_succ])
                    refine wpAnyH_take (i := 8) (oi := { dst := some 70, op := Op.load 75 (Operand.tmp 6), type := 75, pos := _, after := #[{ on := 3, ground := Ground.guard }], guard := some (3, false) }) (v := _) rfl (by kernel_rfl) (by kernel_rfl) (by kernel_rfl) (fun _ _ _ h => h) (Or.inl ⟨by rfl, by (intro wS hSw; (try dsimp only at hSw); go_simp; try with_reducible rfl)⟩) (by assumption) ?_
                    (try simp only [Act.put, List.setIfInBounds_toArray, List.set_cons_zero, List.set_cons_succ])
                    refine wpAnyH_ready (rs := [9]) (by kernel_rfl) (by simp) ?_
                    refine AllReadyH.cons (o := { dst := some 71, op := Op.call { callee := Callee.value (Operand.func 141), args := #[Operand.tmp 69, Operand.tmp 70], argTypes := #[47, 75] }, type := 4, pos := _, after := #[{ on := 7, ground := Ground.data }, { on := 8, ground := Ground.data }, { on := 3, ground := Ground.chain }, { on := 3, ground := Ground.guard }], guard := some (3, false) }) rfl (fun K hK => ?_) AllReadyH.nil
                    go_simp
                    refine (ccontains_b _ (some ⟨b, o, none⟩) k d (c.done.take k) x true HCN.out V2.out (by omega) (by unfold maxLen; omega) (by omega)).mono ?_
                    rintro e w3 ⟨rfl, hk3⟩
                    have K3 := Lib.hid (K2.out.chain0 (Nat.le_refl _) hk3)
                    have KV3 := Lib.hid (KV2.out.chain0 (Nat.le_refl _) hk3)
                    have y3 : w3.cell? ⟨q, 0, none⟩ = some (.int .i64 x.s) ∧ w3.cell? ⟨q, 1, none⟩ = some (.int .i64 x.n) ∧ w3.cell? ⟨p, 6, none⟩ = some (.slice (some ⟨b, o, none⟩) n d) := ⟨(Q2.out.keepS hk3 (by simp)).cell 0, (Q2.out.keepS hk3 (by simp)).cell 1, (B2.out.keepS hk3 (by simp)).cell 6⟩
                    clear hk3
                    refine hK.out _ _ (by exact y3) (fun hHeld => ?_)
                    clear hK K
                    (try simp only [Act.put, List.setIfInBounds_toArray, List.set_cons_zero, List.set_cons_succ])
                    refine wpAnyH_take (i := 10) (oi := { dst := some 72, op := Op.pick (Operand.tmp 65) (Operand.const (Value.bool true)) (Operand.tmp 71), type := 4, pos := _, after := #[{ on := 3, ground := Ground.data }, { on := 9, ground := Ground.data }], guard := none }) (v := _) rfl (by kernel_rfl) (by kernel_rfl) (by kernel_rfl) (fun _ _ _ h => h) (Or.inl ⟨by rfl, by (intro wS hSw; (try dsimp only at hSw); go_simp; try with_reducible rfl)⟩) (by assumption) ?_
                    (try simp only [Act.put, List.setIfInBounds_toArray, List.set_cons_zero, List.set_cons_succ])
                    refine wpAnyH_done (by kernel_rfl) ?_ _
                    go_wp2_with fail
                    go_ret
                    exact ⟨rfl, K3.out⟩
                  | false =>
                    have HCN := Lib.hid hcn
                    clear hcn
                    refine wp_region_held_drew (S := (fun w' => w'.cell? ⟨q, 0, none⟩ = some (.int .i64 x.s) ∧ w'.cell? ⟨q, 1, none⟩ = some (.int .i64 x.n) ∧ w'.cell? ⟨p, 6, none⟩ = some (.slice (some ⟨b, o, none⟩) n d))) (by kernel_rfl) (by exact y0) (fun hHeld => ?_)
                    refine wpAnyH_take (i := 0) (oi := { dst := some 62, op := Op.load 75 (Operand.tmp 6), type := 75, pos := _, after := #[], guard := none }) (v := _) rfl (by kernel_rfl) (by kernel_rfl) (by kernel_rfl) (fun _ _ _ h => h) (Or.inl ⟨by rfl, by (intro wS hSw; (try dsimp only at hSw); go_simp; try with_reducible rfl)⟩) (by assumption) ?_
                    (try simp only [Act.put, List.setIfInBounds_toArray, List.set_cons_zero, List.set_cons_succ])
                    refine wpAnyH_ready (rs := [1]) (by kernel_rfl) (by simp) ?_
                    refine AllReadyH.cons (o := { dst := some 63, op := Op.call { callee := Callee.value (Operand.func 140), args := #[Operand.tmp 62], argTypes := #[75] }, type := 4, pos := _, after := #[{ on := 0, ground := Ground.data }], guard := none }) rfl (fun K hK => ?_) AllReadyH.nil
                    go_simp
                    refine (cid_b _ x true HID.out).mono ?_
                    rintro e w2 ⟨rfl, hk2⟩
                    have k2 : Keep W1.heap.size [] W1 w2 := hk2.undrew
                    have K2 := Lib.hid (K1.out.chain0 (Nat.le_refl _) k2)
                    have KV2 := Lib.hid (KV1.out.chain0 (Nat.le_refl _) k2)
                    have Q2 := Lib.hid (Q1.out.keepS k2 (by simp))
                    have B2 := Lib.hid (B1.out.keepS k2 (by simp))
                    have V2 := Lib.hid (VT.out.keep0 k2)
                    have y2 : w2.cell? ⟨q, 0, none⟩ = some (.int .i64 x.s) ∧ w2.cell? ⟨q, 1, none⟩ = some (.int .i64 x.n) ∧ w2.cell? ⟨p, 6, none⟩ = some (.slice (some ⟨b, o, none⟩) n d) := ⟨Q2.out.cell 0, Q2.out.cell 1, B2.out.cell 6⟩
                    clear hk2 k2
                    refine hK.out _ _ (by exact y2) (fun hHeld => ?_)
                    clear hK K
                    (try simp only [Act.put, List.setIfInBounds_toArray, List.set_cons_zero, List.set_cons_succ])
                    refine wpAnyH_take (i := 2) (oi := { dst := some 64, op := Op.unOp UnOp.not 4 (Operand.tmp 63), type := 4, pos := _, after := #[{ on := 1, ground := Ground.data }], guard := none }) (v := _) rfl (by kernel_rfl) (by kernel_rfl) (by kernel_rfl) (fun _ _ _ h => h) (Or.inl ⟨by rfl, by (intro wS hSw; (try dsimp only at hSw); go_simp; try with_reducible rfl)⟩) (by assumption) ?_
                    (try simp only [Act.put, List.setIfInBounds_toArray, List.set_cons_zero, List.set_cons_succ])
                    refine wpAnyH_take (i := 3) (oi := { dst := some 65, op := Op.move (Operand.tmp 64), type := 4, pos := _, after := #[{ on := 2, ground := Ground.data }, { on := 1, ground := Ground.chain }], guard := none }) (v := _) rfl (by kernel_rfl) (by kernel_rfl) (by kernel_rfl) (fun _ _ _ h => h) (Or.inl ⟨by rfl, by (intro wS hSw; (try dsimp only at hSw); go_simp; try with_reducible rfl)⟩) (by assumption) ?_
                    (try simp only [Act.put, List.setIfInBounds_toArray, List.set_cons_zero, List.set_cons_succ])
                    refine wpAnyH_take (i := 4) (oi := { dst := some 66, op := Op.fieldAddr 64 (Operand.tmp 1) 6, type := 0, pos := _, after := #[{ on := 3, ground := Ground.guard }], guard := some (3, false) }) (v := _) rfl (by kernel_rfl) (by kernel_rfl) (by kernel_rfl) (fun _ _ _ h => h) (Or.inl ⟨by rfl, by (intro wS hSw; (try dsimp only at hSw); go_simp; try with_reducible rfl)⟩) (by assumption) ?_
                    (try simp only [Act.put, List.setIfInBounds_toArray, List.set_cons_zero, List.set_cons_succ])
                    refine wpAnyH_take (i := 5) (oi := { dst := some 67, op := Op.load 47 (Operand.tmp 66), type := 47, pos := _, after := #[{ on := 4, ground := Ground.data }, { on := 3, ground := Ground.guard }], guard := some (3, false) }) (v := _) rfl (by kernel_rfl) (by kernel_rfl) (by kernel_rfl) (fun _ _ _ h => h) (Or.inl ⟨by rfl, by (intro wS hSw; (try dsimp only at hSw); go_simp; try with_reducible rfl)⟩) (by assumption) ?_
                    (try simp only [Act.put, List.setIfInBounds_toArray, List.set_cons_zero, List.set_cons_succ])
                    refine wpAnyH_take (i := 6) (oi := { dst := some 68, op := Op.move (Operand.tmp 5), type := 3, pos := _, after := #[{ on := 3, ground := Ground.guard }], guard := some (3, false) }) (v := _) rfl (by kernel_rfl) (by kernel_rfl) (by kernel_rfl) (fun _ _ _ h => h) (Or.inl ⟨by rfl, by (intro wS hSw; (try dsimp only at hSw); go_simp; try with_reducible rfl)⟩) (by assumption) ?_
                    (try simp only [Act.put, List.setIfInBounds_toArray, List.set_cons_zero, List.set_cons_succ])
                    refine wpAnyH_take (i := 7) (oi := { dst := some 69, op := Op.slice 47 (Operand.tmp 67) none (some (Operand.tmp 68)) none, type := 47, pos := _, after := #[{ on := 5, ground := Ground.data }, { on := 6, ground := Ground.data }, { on := 3, ground := Ground.guard }], guard := some (3, false) }) (v := _) rfl (by kernel_rfl) (by kernel_rfl) (by kernel_rfl) (fun _ _ _ h => h) (Or.inl ⟨by rfl, by (intro wS hSw; (try dsimp only at hSw); go_simp; try with_reducible rfl)⟩) (by assumption) ?_
                    (try simp only [Act.put, List.setIfInBounds_toArray, List.set_cons_zero, List.set_cons_succ])
                    refine wpAnyH_take (i := 8) (oi := { dst := some 70, op := Op.load 75 (Operand.tmp 6), type := 75, pos := _, after := #[{ on := 3, ground := Ground.guard }], guard := some (3, false) }) (v := _) rfl (by kernel_rfl) (by kernel_rfl) (by kernel_rfl) (fun _ _ _ h => h) (Or.inl ⟨by rfl, by (intro wS hSw; (try dsimp only at hSw); go_simp; try with_reducible rfl)⟩) (by assumption) ?_
                    (try simp only [Act.put, List.setIfInBounds_toArray, List.set_cons_zero, List.set_cons_succ])
                    refine wpAnyH_ready (rs := [9]) (by kernel_rfl) (by simp) ?_
                    refine AllReadyH.cons (o := { dst := some 71, op := Op.call { callee := Callee.value (Operand.func 141), args := #[Operand.tmp 69, Operand.tmp 70], argTypes := #[47, 75] }, type := 4, pos := _, after := #[{ on := 7, ground := Ground.data }, { on := 8, ground := Ground.data }, { on := 3, ground := Ground.chain }, { on := 3, ground := Ground.guard }], guard := some (3, false) }) rfl (fun K hK => ?_) AllReadyH.nil
                    go_simp
                    refine (ccontains_b _ (some ⟨b, o, none⟩) k d (c.done.take k) x false HCN.out V2.out (by omega) (by unfold maxLen; omega) (by omega)).mono ?_
                    rintro e w3 ⟨rfl, hk3⟩
                    have K3 := Lib.hid (K2.out.chain0 (Nat.le_refl _) hk3)
                    have KV3 := Lib.hid (KV2.out.chain0 (Nat.le_refl _) hk3)
                    have y3 : w3.cell? ⟨q, 0, none⟩ = some (.int .i64 x.s) ∧ w3.cell? ⟨q, 1, none⟩ = some (.int .i64 x.n) ∧ w3.cell? ⟨p, 6, none⟩ = some (.slice (some ⟨b, o, none⟩) n d) := ⟨(Q2.out.keepS hk3 (by simp)).cell 0, (Q2.out.keepS hk3 (by simp)).cell 1, (B2.out.keepS hk3 (by simp)).cell 6⟩
                    clear hk3
                    refine hK.out _ _ (by exact y3) (fun hHeld => ?_)
                    clear hK K
                    (try simp only [Act.put, List.setIfInBounds_toArray, List.set_cons_zero, List.set_cons_succ])
                    refine wpAnyH_take (i := 10) (oi := { dst := some 72, op := Op.pick (Operand.tmp 65) (Operand.const (Value.bool true)) (Operand.tmp 71), type := 4, pos := _, after := #[{ on := 3, ground := Ground.data }, { on := 9, ground := Ground.data }], guard := none }) (v := _) rfl (by kernel_rfl) (by kernel_rfl) (by kernel_rfl) (fun _ _ _ h => h) (Or.inl ⟨by rfl, by (intro wS hSw; (try dsimp only at hSw); go_simp; try with_reducible rfl)⟩) (by assumption) ?_
                    (try simp only [Act.put, List.setIfInBounds_toArray, List.set_cons_zero, List.set_cons_succ])
                    refine wpAnyH_done (by kernel_rfl) ?_ _
                    go_wp2_with fail
                    go_roundw
                    case rel =>
                      refine ⟨k + 1, by omega, by go_num, fun i f hi hf => ?_, K3.out, KV3.out⟩
                      by_cases hik : i = k
                      · subst hik
                        rw [HXK.out] at hf
                        cases hf
                        exact ⟨HID.out, of_decide_eq_false HCN.out⟩
                      · exact GD.out i f (by omega) hf
                    case measure => simp [intOf] <;> omega
              · obtain rfl : k = n := by omega
                have ev : v = true := by
                  rw [← HD.out]
                  exact doneB_yes fun j f hj => GD.out j f (by rw [HN.out]; exact (List.getElem?_eq_some_iff.1 hj).1) hj
                subst ev
                have hm : Hid (m = 160) := Lib.hid P0.out.m160
                have LI := Lib.hid (loadR_image P0.out.l16 P0.out.lok P0.out.lrt)
                have c3 : wr.cell? ⟨p, 3, none⟩ = some (.slice X m cc) := BW.out.cell 3
                go_wp2_with fail
                refine (load_r _ X m cc (imageL c.led) _ LI.out (imageL_oct _) (by have := hm.out; omega) (by exact PW.out.vl)).mono ?_
                rintro e w4 ⟨hk4, gl, rfl, _, _⟩
                have K4 := Lib.hid (KW.out.chain0 (Nat.le_refl _) hk4)
                have B4 := Lib.hid (BW.out.keepS hk4 (by simp))
                have c4 : w4.cell? ⟨p, 4, none⟩ = some (.slice none 0 0) := B4.out.cell 4
                clear hk4 c3
                go_wp2_with fail
                refine (senc_nil _).mono ?_
                rintro e w5 ⟨A5, n5, c5', rfl, _, _, hk5, _⟩
                have K5 := Lib.hid (K4.out.chain0 (Nat.le_refl _) hk5)
                clear hk5
                go_wp2_with fail
                go_ret
                exact ⟨rfl, K5.out⟩
end Go.Proofs.Ytfkbcflgbjncdaa
