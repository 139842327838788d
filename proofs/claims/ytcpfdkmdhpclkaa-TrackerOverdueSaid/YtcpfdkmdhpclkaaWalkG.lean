/- The tracker: Overdue: its contract. -/
import Derived.Test.YtcpfdkmdhpclkaaWalkF
namespace Go.Proofs.Ytcpfdkmdhpclkaa
set_option linter.unusedVariables false
set_option linter.unusedSimpArgs false
open Go.RowKit
set_option maxHeartbeats 400000 in
theorem overdue_nil (w : World) (now : Int) : Calls Try.prog 12 #[.pointer none, .int .i64 now] w fun e w' => e = .returned (.slice none 0 0) ∧ w = w' := by
  go_enter Try.func12, Try.ntmps12
  go_wp2_with fail
  refine (tvalid_nil _).mono ?_
  rintro e w' ⟨rfl, rfl⟩
  go_wp2_with fail
  go_ret
  exact ⟨rfl, rfl⟩
def late (now to : Int) (x : Is) : Bool := !final x.g && decide (to ≤ now - x.t)
def overP (now to : Int) (D : List Is) : List (Int × Int) := (D.filter (late now to)).map fun x => (x.s, x.n)
def pcells (L : List (Int × Int)) : List Value := L.flatMap fun p => [.int .i64 p.1, .int .i64 p.2]
theorem pcells_len : ∀ L, (pcells L).length = L.length * 2
  | [] => rfl
  | p :: L => by
    have := pcells_len L
    unfold pcells at this ⊢
    rw [List.flatMap_cons, List.length_append, this]; simp; omega
theorem overP_take (now to : Int) (D : List Is) (k : Nat) (x : Is) (h : D[k]? = some x) : overP now to (D.take (k + 1)) = overP now to (D.take k) ++ (if late now to x = true then [(x.s, x.n)] else []) := by
  unfold overP
  rw [List.take_add_one, h, List.filter_append, List.map_append]
  cases hf : late now to x <;> simp [hf]
theorem overP_le (now to : Int) (D : List Is) : (overP now to D).length ≤ D.length := by
  unfold overP; rw [List.length_map]; exact List.length_filter_le _ _
theorem infoP2 : (Try.prog.info? 34).map (fun i => (i.zero, i.size, i.bytes)) = some (some (.agg #[.int .i64 0, .int .i64 0]), 2, 16) := by kernel_rfl
def OvRel (w : World) (g : Nat) (A : Option Addr) (t : Tk) (L : List (Int × Int)) (u : Value) (wr : World) : Prop :=
  ∃ A' n c, u = .slice A' n c ∧ n = L.length ∧ Sl wr 34 2 A' n c (pcells L) ∧ Tr wr g A t ∧ Keep w.heap.size [g] w wr ∧ ∀ x, x ∈ blks A' → w.heap.size ≤ x
def OvPost (w : World) (g : Nat) (A : Option Addr) (t : Tk) (L : List (Int × Int)) (e : Ending) (w' : World) : Prop := ∃ u, e = .returned u ∧ OvRel w g A t L u w'
theorem OvRel.grow {w wr wr' : World} {g : Nat} {A : Option Addr} {t : Tk} {L : List (Int × Int)} {u : Value} (h : OvRel w g A t L u wr) (k : Keep wr.heap.size [] wr wr') : OvRel w g A t L u wr' := by
  obtain ⟨A', n, c, h1, h2, h3, h4, h5, h6⟩ := h
  exact ⟨A', n, c, h1, h2, h3.keep0 k, h4.keep0 k, h5.trans (k.mono h5.size (by simp)), h6⟩
theorem OvRel.app {w wr w3 : World} {o : Obj} {g : Nat} {A : Option Addr} {t : Tk} {L : List (Int × Int)} {A' A2 : Option Addr} {n c2 : Nat} {s q : Int} (hg : g < w.heap.size) (hA : ∀ x, x ∈ blks A → x < w.heap.size) (hn : n = L.length) (ht : Tr wr g A t) (hk : Keep w.heap.size [g] w wr) (hbl : ∀ x, x ∈ blks A' → w.heap.size ≤ x)
    (hs3 : Sl w3 34 2 A2 (n + 1) c2 (pcells L ++ (#[.int .i64 s, .int .i64 q] : Array Value).toList)) (hk3 : Keep (wr.alloc o).heap.size (blks A') (wr.alloc o) w3) (hb3 : ∀ g, g ∈ blks A2 → g ∈ blks A' ∨ g = (wr.alloc o).heap.size) :
    OvRel w g A t (L ++ [(s, q)]) (.slice A2 (n + 1) c2) w3 := by
  have ka : Keep wr.heap.size [] wr (wr.alloc o) := (Keep.refl _ _ _).alloc (Nat.le_refl _) o
  refine ⟨A2, n + 1, c2, rfl, by simp [hn], ?_, (ht.keep0 ka).keepS hk3 (fun h => absurd (hbl g h) (by omega)) (fun x hx h => absurd (hbl x h) (by have := hA x hx; omega)), ?_, ?_⟩
  · have e : pcells (L ++ [(s, q)]) = pcells L ++ (#[.int .i64 s, .int .i64 q] : Array Value).toList := by simp [pcells]
    rw [e]
    exact hs3
  · exact (hk.trans (ka.mono hk.size (by simp))).trans (hk3.mono (Nat.le_trans hk.size ka.size) (fun x hx h => absurd (hbl x h) (by omega)))
  · intro x hx
    rcases hb3 x hx with h | h
    · exact hbl x h
    · rw [h]; exact Nat.le_trans hk.size ka.size
set_option maxRecDepth 100000 in
set_option maxHeartbeats 4000000 in
theorem overdue_any (w : World) (g : Nat) (A : Option Addr) (t : Tk) (now : Int) (L : List (Int × Int)) (hL : overP (adv t.now now) t.to t.D = L) (h : Tr w g A t) :
    Calls Try.prog 12 #[bptr g, .int .i64 now] w (OvPost w g A ⟨adv t.now now, t.to, t.D⟩ L) := by
  have HT := Lib.hid h
  have hgl := Lib.hid h.lt
  have HA := Lib.hid (show ∀ x, x ∈ blks A → x < w.heap.size from by obtain ⟨_, _, _, _, hs, _⟩ := h; exact fun x hx => hs.blk hx)
  have h0 : w.cell? ⟨g, 0, none⟩ = some (.bool true) := by obtain ⟨_, _, _, hb, _⟩ := h; exact hb.cell 0
  clear h
  obtain ⟨nw, hnw⟩ : ∃ nw, adv t.now now = nw := ⟨_, rfl⟩
  rw [hnw] at hL ⊢
  have HL := Lib.hid hL
  have HN := Lib.hid hnw
  clear hnw hL
  go_enter Try.func12, Try.ntmps12
  go_wp2_with fail
  refine (tvalid_any _ g (by exact h0)).mono ?_
  rintro e w' ⟨rfl, rfl⟩
  go_wp2_with fail
  refine (tadv_any _ g A t now nw HN.out (by exact HT.out)).mono ?_
  rintro e w1 ⟨rfl, ht1, hk1⟩
  have HT1 := Lib.hid ht1
  have HK1 := Lib.hid hk1
  obtain ⟨m, c, hm, hb, hs, hok, hmx⟩ := ht1
  have h3 : w1.cell? ⟨g, 3, none⟩ = some (.slice A m c) := hb.cell 3
  have hcap := hs.cap
  have hmc : (m : Int) ≤ (c : Int) := by omega
  have hcm : (c : Int) ≤ 9223372036854775807 := by have := hcap.2; unfold maxLen at this; omega
  have HM : Hid (m = t.D.length) := Lib.hid hm
  have HOK := Lib.hid hok
  clear hb hs hm hok h0 hk1 hcap
  obtain ⟨i0, hi0, hz0, hz1, hz2⟩ := info_parts infoP2
  go_wp2_with fail
  go_loopw [5, 19] (fun u i wr => ∃ k : Nat, k ≤ m ∧ i = .int .i64 k ∧ OvRel w g A ⟨nw, t.to, t.D⟩ (overP nw t.to (t.D.take k)) u wr) (fun _ i _ => m - (intOf i).toNat)
  case atStart => exact ⟨0, Nat.zero_le _, rfl, none, 0, 0, rfl, rfl, Sl.nil _ _ _, HT1.out, HK1.out, by simp [blks]⟩
  case round =>
    obtain ⟨k, hk, rfl, hrel⟩ := hrel
    have HR := Lib.hid hrel
    obtain ⟨A', n', c', rfl, hn', hs', ht', hk', hbl'⟩ := hrel
    by_cases hlt : k < m
    · obtain ⟨x, hx⟩ : ∃ x, t.D[k]? = some x := ⟨t.D[k]'(by have := HM.out; omega), List.getElem?_eq_getElem _⟩
      have HTR := Lib.hid ht'
      obtain ⟨m2, c2, hm2, hb2, hs2, _⟩ := ht'
      obtain ⟨b, hA, hb, hc⟩ := hs2.icell hm2 hx
      subst hA
      have e0 : wr.cell? ⟨b, k * 5, none⟩ = some (.int .i64 x.s) := hc 0 _ rfl
      have e1 : wr.cell? ⟨b, k * 5 + 1, none⟩ = some (.int .i64 x.n) := hc 1 _ rfl
      have e2 : wr.cell? ⟨b, k * 5 + 2, none⟩ = some (.int .i64 x.t) := hc 2 _ rfl
      have e3 : wr.cell? ⟨b, k * 5 + 3, none⟩ = some (.int .i64 x.g) := hc 3 _ rfl
      have e4 : wr.cell? ⟨b, k * 5 + 4, none⟩ = some (.int .i64 x.c) := hc 4 _ rfl
      have HX := Lib.hid hx
      have HN' := Lib.hid hn'
      have HS' := Lib.hid hs'
      have HK' := Lib.hid hk'
      have HBL := Lib.hid hbl'
      have hop := overP_take nw t.to t.D k x hx
      have HOP := Lib.hid hop
      have hkm : (k : Int) < (m : Int) := by omega
      have hxt := HOK.out.2.2 x (List.mem_of_getElem? hx)
      have hnwb := HOK.out.1
      have htob := HOK.out.2.1
      simp only at hxt hnwb htob
      obtain ⟨hx1, hx2⟩ := hxt
      obtain ⟨hn1, hn2⟩ := hnwb
      obtain ⟨ht1, ht2⟩ := htob
      have hn1000 : n' + 1 ≤ 1000 := by
        have := overP_le nw t.to (t.D.take k)
        rw [List.length_take] at this
        rw [hn']; omega
      have hbx := Blk.new wr 56 #[.int .i64 x.s, .int .i64 x.n, .int .i64 x.t, .int .i64 x.g, .int .i64 x.c]
      have hb3 := hb2.alloc (.cells #[.int .i64 x.s, .int .i64 x.n, .int .i64 x.t, .int .i64 x.g, .int .i64 x.c] 56)
      have b0 : (wr.alloc (.cells #[.int .i64 x.s, .int .i64 x.n, .int .i64 x.t, .int .i64 x.g, .int .i64 x.c] 56)).cell? ⟨wr.heap.size, 0, none⟩ = some (.int .i64 x.s) := hbx.cell 0
      have b1 : (wr.alloc (.cells #[.int .i64 x.s, .int .i64 x.n, .int .i64 x.t, .int .i64 x.g, .int .i64 x.c] 56)).cell? ⟨wr.heap.size, 1, none⟩ = some (.int .i64 x.n) := hbx.cell 1
      have b2 : (wr.alloc (.cells #[.int .i64 x.s, .int .i64 x.n, .int .i64 x.t, .int .i64 x.g, .int .i64 x.c] 56)).cell? ⟨wr.heap.size, 2, none⟩ = some (.int .i64 x.t) := hbx.cell 2
      have b3 : (wr.alloc (.cells #[.int .i64 x.s, .int .i64 x.n, .int .i64 x.t, .int .i64 x.g, .int .i64 x.c] 56)).cell? ⟨wr.heap.size, 3, none⟩ = some (.int .i64 x.g) := hbx.cell 3
      have g1 : (wr.alloc (.cells #[.int .i64 x.s, .int .i64 x.n, .int .i64 x.t, .int .i64 x.g, .int .i64 x.c] 56)).cell? ⟨g, 1, none⟩ = some (.int .i64 nw) := hb3.cell 1
      have g2 : (wr.alloc (.cells #[.int .i64 x.s, .int .i64 x.n, .int .i64 x.t, .int .i64 x.g, .int .i64 x.c] 56)).cell? ⟨g, 2, none⟩ = some (.int .i64 t.to) := hb3.cell 2
      have kb : Keep wr.heap.size [] wr (wr.alloc (.cells #[.int .i64 x.s, .int .i64 x.n, .int .i64 x.t, .int .i64 x.g, .int .i64 x.c] 56)) := (Keep.refl _ _ _).alloc (Nat.le_refl _) _
      have KB := Lib.hid kb
      have NEXT := Lib.hid (HR.out.grow kb.drew)
      have h1n : x.n = x.n := rfl
      have hsz : (wr.alloc (.cells #[.int .i64 x.s, .int .i64 x.n, .int .i64 x.t, .int .i64 x.g, .int .i64 x.c] 56)).heap.size = wr.heap.size + 1 := World.size_alloc _ _
      have hsrc := Blk.new (wr.alloc (.cells #[.int .i64 x.s, .int .i64 x.n, .int .i64 x.t, .int .i64 x.g, .int .i64 x.c] 56)) 34 #[.int .i64 x.s, .int .i64 x.n]
      rw [hsz] at hsrc
      have SRC := Lib.hid hsrc
      clear hsz hsrc
      clear hbx hb2 hb3 hs2 hm2 hc hx hn' hs' hk' hbl' hop kb h1n
      cases hf : final x.g with
      | true =>
        have HF := Lib.hid hf
        have hlate : late nw t.to x = false := by unfold late; rw [hf]; rfl
        have HLT := Lib.hid hlate
        clear hf hlate
        go_wp2_with fail
        refine wp_region_held_drew (S := (fun w' => (w'.cell? ⟨wr.heap.size, 2, none⟩ = some (.int .i64 x.t) ∧ w'.cell? ⟨wr.heap.size, 3, none⟩ = some (.int .i64 x.g)) ∧ w'.cell? ⟨g, 1, none⟩ = some (.int .i64 nw) ∧ w'.cell? ⟨g, 2, none⟩ = some (.int .i64 t.to))) (by kernel_rfl) (by exact ⟨⟨b2, b3⟩, g1, g2⟩) (fun hHeld => ?_)
        refine wpAnyH_take (i := 0) (oi := { dst := some 23, op := Op.fieldAddr 56 (Operand.tmp 7) 3, type := 0, pos := _, after := #[], guard := none }) (v := _) rfl (by kernel_rfl) (by kernel_rfl) (by kernel_rfl) (fun _ _ _ h => h) (Or.inl ⟨by rfl, by (intro wS hSw; (try dsimp only at hSw); go_simp; try with_reducible rfl)⟩) (by assumption) ?_
        (try simp only [Act.put, List.setIfInBounds_toArray, List.set_cons_zero, List.set_cons_succ])
        refine wpAnyH_take (i := 1) (oi := { dst := some 24, op := Op.load 3 (Operand.tmp 23), type := 3, pos := _, after := #[{ on := 0, ground := Ground.data }], guard := none }) (v := _) rfl (by kernel_rfl) (by kernel_rfl) (by kernel_rfl) (fun _ _ _ h => h) (Or.inl ⟨by rfl, by (intro wS hSw; (try dsimp only at hSw); go_simp; try with_reducible rfl)⟩) (by assumption) ?_
        (try simp only [Act.put, List.setIfInBounds_toArray, List.set_cons_zero, List.set_cons_succ])
        refine wpAnyH_ready (rs := [2]) (by kernel_rfl) (by simp) ?_
        refine AllReadyH.cons (o := { dst := some 25, op := Op.call { callee := Callee.value (Operand.func 26), args := #[Operand.tmp 24], argTypes := #[3] }, type := 4, pos := _, after := #[{ on := 1, ground := Ground.data }], guard := none }) rfl (fun K hK => ?_) AllReadyH.nil
        go_simp
        refine (final_v _ x.g true (by exact HF.out)).mono ?_
        rintro e w5 ⟨rfl, rfl⟩
        refine hK.out _ _ (by exact ⟨⟨b2, b3⟩, g1, g2⟩) (fun hHeld => ?_)
        clear hK K
        (try simp only [Act.put, List.setIfInBounds_toArray, List.set_cons_zero, List.set_cons_succ])
        refine wpAnyH_take (i := 3) (oi := { dst := some 26, op := Op.unOp UnOp.not 4 (Operand.tmp 25), type := 4, pos := _, after := #[{ on := 2, ground := Ground.data }], guard := none }) (v := _) rfl (by kernel_rfl) (by kernel_rfl) (by kernel_rfl) (fun _ _ _ h => h) (Or.inl ⟨by rfl, by (intro wS hSw; (try dsimp only at hSw); go_simp; try with_reducible rfl)⟩) (by assumption) ?_
        (try simp only [Act.put, List.setIfInBounds_toArray, List.set_cons_zero, List.set_cons_succ])
        refine wpAnyH_take (i := 4) (oi := { dst := some 27, op := Op.move (Operand.tmp 26), type := 4, pos := _, after := #[{ on := 3, ground := Ground.data }, { on := 2, ground := Ground.chain }], guard := none }) (v := _) rfl (by kernel_rfl) (by kernel_rfl) (by kernel_rfl) (fun _ _ _ h => h) (Or.inl ⟨by rfl, by (intro wS hSw; (try dsimp only at hSw); go_simp; try with_reducible rfl)⟩) (by assumption) ?_
        (try simp only [Act.put, List.setIfInBounds_toArray, List.set_cons_zero, List.set_cons_succ])
        refine wpAnyH_take (i := 5) (oi := { dst := some 28, op := Op.move (Operand.tmp 0), type := 24, pos := _, after := #[{ on := 4, ground := Ground.guard }], guard := some (4, true) }) (v := undef) rfl (by kernel_rfl) (by kernel_rfl) (by kernel_rfl) (fun _ _ _ h => h) (Or.inr ⟨by rfl, rfl⟩) (by assumption) ?_
        (try simp only [Act.put, List.setIfInBounds_toArray, List.set_cons_zero, List.set_cons_succ])
        refine wpAnyH_take (i := 6) (oi := { dst := some 29, op := Op.nilCheck (Operand.tmp 28), type := 0, pos := _, after := #[{ on := 5, ground := Ground.data }, { on := 4, ground := Ground.guard }], guard := some (4, true) }) (v := undef) rfl (by kernel_rfl) (by kernel_rfl) (by kernel_rfl) (fun _ _ _ h => h) (Or.inr ⟨by rfl, rfl⟩) (by assumption) ?_
        (try simp only [Act.put, List.setIfInBounds_toArray, List.set_cons_zero, List.set_cons_succ])
        refine wpAnyH_take (i := 7) (oi := { dst := some 30, op := Op.fieldAddr 51 (Operand.tmp 29) 1, type := 0, pos := _, after := #[{ on := 6, ground := Ground.data }, { on := 4, ground := Ground.guard }], guard := some (4, true) }) (v := undef) rfl (by kernel_rfl) (by kernel_rfl) (by kernel_rfl) (fun _ _ _ h => h) (Or.inr ⟨by rfl, rfl⟩) (by assumption) ?_
        (try simp only [Act.put, List.setIfInBounds_toArray, List.set_cons_zero, List.set_cons_succ])
        refine wpAnyH_take (i := 8) (oi := { dst := some 31, op := Op.load 3 (Operand.tmp 30), type := 3, pos := _, after := #[{ on := 7, ground := Ground.data }, { on := 4, ground := Ground.guard }], guard := some (4, true) }) (v := undef) rfl (by kernel_rfl) (by kernel_rfl) (by kernel_rfl) (fun _ _ _ h => h) (Or.inr ⟨by rfl, rfl⟩) (by assumption) ?_
        (try simp only [Act.put, List.setIfInBounds_toArray, List.set_cons_zero, List.set_cons_succ])
        refine wpAnyH_take (i := 9) (oi := { dst := some 32, op := Op.fieldAddr 56 (Operand.tmp 7) 2, type := 0, pos := _, after := #[{ on := 4, ground := Ground.guard }], guard := some (4, true) }) (v := undef) rfl (by kernel_rfl) (by kernel_rfl) (by kernel_rfl) (fun _ _ _ h => h) (Or.inr ⟨by rfl, rfl⟩) (by assumption) ?_
        (try simp only [Act.put, List.setIfInBounds_toArray, List.set_cons_zero, List.set_cons_succ])
        refine wpAnyH_take (i := 10) (oi := { dst := some 33, op := Op.load 3 (Operand.tmp 32), type := 3, pos := _, after := #[{ on := 9, ground := Ground.data }, { on := 4, ground := Ground.guard }], guard := some (4, true) }) (v := undef) rfl (by kernel_rfl) (by kernel_rfl) (by kernel_rfl) (fun _ _ _ h => h) (Or.inr ⟨by rfl, rfl⟩) (by assumption) ?_
        (try simp only [Act.put, List.setIfInBounds_toArray, List.set_cons_zero, List.set_cons_succ])
        refine wpAnyH_take (i := 11) (oi := { dst := some 34, op := Op.binOp BinOp.sub 3 (Operand.tmp 31) (Operand.tmp 33) 3, type := 3, pos := _, after := #[{ on := 8, ground := Ground.data }, { on := 10, ground := Ground.data }, { on := 4, ground := Ground.guard }], guard := some (4, true) }) (v := undef) rfl (by kernel_rfl) (by kernel_rfl) (by kernel_rfl) (fun _ _ _ h => h) (Or.inr ⟨by rfl, rfl⟩) (by assumption) ?_
        (try simp only [Act.put, List.setIfInBounds_toArray, List.set_cons_zero, List.set_cons_succ])
        refine wpAnyH_take (i := 12) (oi := { dst := some 35, op := Op.move (Operand.tmp 0), type := 24, pos := _, after := #[{ on := 4, ground := Ground.guard }], guard := some (4, true) }) (v := undef) rfl (by kernel_rfl) (by kernel_rfl) (by kernel_rfl) (fun _ _ _ h => h) (Or.inr ⟨by rfl, rfl⟩) (by assumption) ?_
        (try simp only [Act.put, List.setIfInBounds_toArray, List.set_cons_zero, List.set_cons_succ])
        refine wpAnyH_take (i := 13) (oi := { dst := some 36, op := Op.nilCheck (Operand.tmp 35), type := 0, pos := _, after := #[{ on := 12, ground := Ground.data }, { on := 4, ground := Ground.guard }], guard := some (4, true) }) (v := undef) rfl (by kernel_rfl) (by kernel_rfl) (by kernel_rfl) (fun _ _ _ h => h) (Or.inr ⟨by rfl, rfl⟩) (by assumption) ?_
        (try simp only [Act.put, List.setIfInBounds_toArray, List.set_cons_zero, List.set_cons_succ])
        refine wpAnyH_take (i := 14) (oi := { dst := some 37, op := Op.fieldAddr 51 (Operand.tmp 36) 2, type := 0, pos := _, after := #[{ on := 13, ground := Ground.data }, { on := 4, ground := Ground.guard }], guard := some (4, true) }) (v := undef) rfl (by kernel_rfl) (by kernel_rfl) (by kernel_rfl) (fun _ _ _ h => h) (Or.inr ⟨by rfl, rfl⟩) (by assumption) ?_
        (try simp only [Act.put, List.setIfInBounds_toArray, List.set_cons_zero, List.set_cons_succ])
        refine wpAnyH_take (i := 15) (oi := { dst := some 38, op := Op.load 3 (Operand.tmp 37), type := 3, pos := _, after := #[{ on := 14, ground := Ground.data }, { on := 4, ground := Ground.guard }], guard := some (4, true) }) (v := undef) rfl (by kernel_rfl) (by kernel_rfl) (by kernel_rfl) (fun _ _ _ h => h) (Or.inr ⟨by rfl, rfl⟩) (by assumption) ?_
        (try simp only [Act.put, List.setIfInBounds_toArray, List.set_cons_zero, List.set_cons_succ])
        refine wpAnyH_take (i := 16) (oi := { dst := some 39, op := Op.binOp BinOp.geq 3 (Operand.tmp 34) (Operand.tmp 38) 3, type := 4, pos := _, after := #[{ on := 11, ground := Ground.data }, { on := 15, ground := Ground.data }, { on := 4, ground := Ground.guard }], guard := some (4, true) }) (v := undef) rfl (by kernel_rfl) (by kernel_rfl) (by kernel_rfl) (fun _ _ _ h => h) (Or.inr ⟨by rfl, rfl⟩) (by assumption) ?_
        (try simp only [Act.put, List.setIfInBounds_toArray, List.set_cons_zero, List.set_cons_succ])
        refine wpAnyH_take (i := 17) (oi := { dst := some 40, op := Op.pick (Operand.tmp 27) (Operand.tmp 39) (Operand.const (Value.bool false)), type := 4, pos := _, after := #[{ on := 4, ground := Ground.data }, { on := 16, ground := Ground.data }], guard := none }) (v := _) rfl (by kernel_rfl) (by kernel_rfl) (by kernel_rfl) (fun _ _ _ h => h) (Or.inl ⟨by rfl, by (intro wS hSw; (try dsimp only at hSw); go_simp; try with_reducible rfl)⟩) (by assumption) ?_
        (try simp only [Act.put, List.setIfInBounds_toArray, List.set_cons_zero, List.set_cons_succ])
        refine wpAnyH_done (by kernel_rfl) ?_ _

        go_wp2_with fail
        go_roundw
        case rel =>
          refine ⟨k + 1, by omega, by go_num, ?_⟩
          rw [HOP.out, if_neg (by rw [HLT.out]; decide), List.append_nil]
          exact NEXT.out
        case measure => simp [intOf]; omega
      | false =>
        have HF := Lib.hid hf
        by_cases hge : t.to ≤ nw - x.t
        · have hlate : late nw t.to x = true := by unfold late; rw [hf, decide_eq_true hge]; rfl
          have HLT := Lib.hid hlate
          clear hf hlate
          go_wp2_with fail
          refine wp_region_held_drew (S := (fun w' => (w'.cell? ⟨wr.heap.size, 2, none⟩ = some (.int .i64 x.t) ∧ w'.cell? ⟨wr.heap.size, 3, none⟩ = some (.int .i64 x.g)) ∧ w'.cell? ⟨g, 1, none⟩ = some (.int .i64 nw) ∧ w'.cell? ⟨g, 2, none⟩ = some (.int .i64 t.to))) (by kernel_rfl) (by exact ⟨⟨b2, b3⟩, g1, g2⟩) (fun hHeld => ?_)
          refine wpAnyH_take (i := 0) (oi := { dst := some 23, op := Op.fieldAddr 56 (Operand.tmp 7) 3, type := 0, pos := _, after := #[], guard := none }) (v := _) rfl (by kernel_rfl) (by kernel_rfl) (by kernel_rfl) (fun _ _ _ h => h) (Or.inl ⟨by rfl, by (intro wS hSw; (try dsimp only at hSw); go_simp; try with_reducible rfl)⟩) (by assumption) ?_
          (try simp only [Act.put, List.setIfInBounds_toArray, List.set_cons_zero, List.set_cons_succ])
          refine wpAnyH_take (i := 1) (oi := { dst := some 24, op := Op.load 3 (Operand.tmp 23), type := 3, pos := _, after := #[{ on := 0, ground := Ground.data }], guard := none }) (v := _) rfl (by kernel_rfl) (by kernel_rfl) (by kernel_rfl) (fun _ _ _ h => h) (Or.inl ⟨by rfl, by (intro wS hSw; (try dsimp only at hSw); go_simp; try with_reducible rfl)⟩) (by assumption) ?_
          (try simp only [Act.put, List.setIfInBounds_toArray, List.set_cons_zero, List.set_cons_succ])
          refine wpAnyH_ready (rs := [2]) (by kernel_rfl) (by simp) ?_
          refine AllReadyH.cons (o := { dst := some 25, op := Op.call { callee := Callee.value (Operand.func 26), args := #[Operand.tmp 24], argTypes := #[3] }, type := 4, pos := _, after := #[{ on := 1, ground := Ground.data }], guard := none }) rfl (fun K hK => ?_) AllReadyH.nil
          go_simp
          refine (final_v _ x.g false (by exact HF.out)).mono ?_
          rintro e w5 ⟨rfl, rfl⟩
          refine hK.out _ _ (by exact ⟨⟨b2, b3⟩, g1, g2⟩) (fun hHeld => ?_)
          clear hK K
          (try simp only [Act.put, List.setIfInBounds_toArray, List.set_cons_zero, List.set_cons_succ])
          refine wpAnyH_take (i := 3) (oi := { dst := some 26, op := Op.unOp UnOp.not 4 (Operand.tmp 25), type := 4, pos := _, after := #[{ on := 2, ground := Ground.data }], guard := none }) (v := _) rfl (by kernel_rfl) (by kernel_rfl) (by kernel_rfl) (fun _ _ _ h => h) (Or.inl ⟨by rfl, by (intro wS hSw; (try dsimp only at hSw); go_simp; try with_reducible rfl)⟩) (by assumption) ?_
          (try simp only [Act.put, List.setIfInBounds_toArray, List.set_cons_zero, List.set_cons_succ])
          refine wpAnyH_take (i := 4) (oi := { dst := some 27, op := Op.move (Operand.tmp 26), type := 4, pos := _, after := #[{ on := 3, ground := Ground.data }, { on := 2, ground := Ground.chain }], guard := none }) (v := _) rfl (by kernel_rfl) (by kernel_rfl) (by kernel_rfl) (fun _ _ _ h => h) (Or.inl ⟨by rfl, by (intro wS hSw; (try dsimp only at hSw); go_simp; try with_reducible rfl)⟩) (by assumption) ?_
          (try simp only [Act.put, List.setIfInBounds_toArray, List.set_cons_zero, List.set_cons_succ])
          refine wpAnyH_take (i := 5) (oi := { dst := some 28, op := Op.move (Operand.tmp 0), type := 24, pos := _, after := #[{ on := 4, ground := Ground.guard }], guard := some (4, true) }) (v := _) rfl (by kernel_rfl) (by kernel_rfl) (by kernel_rfl) (fun _ _ _ h => h) (Or.inl ⟨by rfl, by (intro wS hSw; (try dsimp only at hSw); go_simp; try with_reducible rfl)⟩) (by assumption) ?_
          (try simp only [Act.put, List.setIfInBounds_toArray, List.set_cons_zero, List.set_cons_succ])
          refine wpAnyH_take (i := 6) (oi := { dst := some 29, op := Op.nilCheck (Operand.tmp 28), type := 0, pos := _, after := #[{ on := 5, ground := Ground.data }, { on := 4, ground := Ground.guard }], guard := some (4, true) }) (v := _) rfl (by kernel_rfl) (by kernel_rfl) (by kernel_rfl) (fun _ _ _ h => h) (Or.inl ⟨by rfl, by (intro wS hSw; (try dsimp only at hSw); go_simp; try with_reducible rfl)⟩) (by assumption) ?_
          (try simp only [Act.put, List.setIfInBounds_toArray, List.set_cons_zero, List.set_cons_succ])
          refine wpAnyH_take (i := 7) (oi := { dst := some 30, op := Op.fieldAddr 51 (Operand.tmp 29) 1, type := 0, pos := _, after := #[{ on := 6, ground := Ground.data }, { on := 4, ground := Ground.guard }], guard := some (4, true) }) (v := _) rfl (by kernel_rfl) (by kernel_rfl) (by kernel_rfl) (fun _ _ _ h => h) (Or.inl ⟨by rfl, by (intro wS hSw; (try dsimp only at hSw); go_simp; try with_reducible rfl)⟩) (by assumption) ?_
          (try simp only [Act.put, List.setIfInBounds_toArray, List.set_cons_zero, List.set_cons_succ])
          refine wpAnyH_take (i := 8) (oi := { dst := some 31, op := Op.load 3 (Operand.tmp 30), type := 3, pos := _, after := #[{ on := 7, ground := Ground.data }, { on := 4, ground := Ground.guard }], guard := some (4, true) }) (v := _) rfl (by kernel_rfl) (by kernel_rfl) (by kernel_rfl) (fun _ _ _ h => h) (Or.inl ⟨by rfl, by (intro wS hSw; (try dsimp only at hSw); go_simp; try with_reducible rfl)⟩) (by assumption) ?_
          (try simp only [Act.put, List.setIfInBounds_toArray, List.set_cons_zero, List.set_cons_succ])
          refine wpAnyH_take (i := 9) (oi := { dst := some 32, op := Op.fieldAddr 56 (Operand.tmp 7) 2, type := 0, pos := _, after := #[{ on := 4, ground := Ground.guard }], guard := some (4, true) }) (v := _) rfl (by kernel_rfl) (by kernel_rfl) (by kernel_rfl) (fun _ _ _ h => h) (Or.inl ⟨by rfl, by (intro wS hSw; (try dsimp only at hSw); go_simp; try with_reducible rfl)⟩) (by assumption) ?_
          (try simp only [Act.put, List.setIfInBounds_toArray, List.set_cons_zero, List.set_cons_succ])
          refine wpAnyH_take (i := 10) (oi := { dst := some 33, op := Op.load 3 (Operand.tmp 32), type := 3, pos := _, after := #[{ on := 9, ground := Ground.data }, { on := 4, ground := Ground.guard }], guard := some (4, true) }) (v := _) rfl (by kernel_rfl) (by kernel_rfl) (by kernel_rfl) (fun _ _ _ h => h) (Or.inl ⟨by rfl, by (intro wS hSw; (try dsimp only at hSw); go_simp; try with_reducible rfl)⟩) (by assumption) ?_
          (try simp only [Act.put, List.setIfInBounds_toArray, List.set_cons_zero, List.set_cons_succ])
          refine wpAnyH_take (i := 11) (oi := { dst := some 34, op := Op.binOp BinOp.sub 3 (Operand.tmp 31) (Operand.tmp 33) 3, type := 3, pos := _, after := #[{ on := 8, ground := Ground.data }, { on := 10, ground := Ground.data }, { on := 4, ground := Ground.guard }], guard := some (4, true) }) (v := _) rfl (by kernel_rfl) (by kernel_rfl) (by kernel_rfl) (fun _ _ _ h => h) (Or.inl ⟨by rfl, by (intro wS hSw; (try dsimp only at hSw); go_simp; try with_reducible rfl)⟩) (by assumption) ?_
          (try simp only [Act.put, List.setIfInBounds_toArray, List.set_cons_zero, List.set_cons_succ])
          refine wpAnyH_take (i := 12) (oi := { dst := some 35, op := Op.move (Operand.tmp 0), type := 24, pos := _, after := #[{ on := 4, ground := Ground.guard }], guard := some (4, true) }) (v := _) rfl (by kernel_rfl) (by kernel_rfl) (by kernel_rfl) (fun _ _ _ h => h) (Or.inl ⟨by rfl, by (intro wS hSw; (try dsimp only at hSw); go_simp; try with_reducible rfl)⟩) (by assumption) ?_
          (try simp only [Act.put, List.setIfInBounds_toArray, List.set_cons_zero, List.set_cons_succ])
          refine wpAnyH_take (i := 13) (oi := { dst := some 36, op := Op.nilCheck (Operand.tmp 35), type := 0, pos := _, after := #[{ on := 12, ground := Ground.data }, { on := 4, ground := Ground.guard }], guard := some (4, true) }) (v := _) rfl (by kernel_rfl) (by kernel_rfl) (by kernel_rfl) (fun _ _ _ h => h) (Or.inl ⟨by rfl, by (intro wS hSw; (try dsimp only at hSw); go_simp; try with_reducible rfl)⟩) (by assumption) ?_
          (try simp only [Act.put, List.setIfInBounds_toArray, List.set_cons_zero, List.set_cons_succ])
          refine wpAnyH_take (i := 14) (oi := { dst := some 37, op := Op.fieldAddr 51 (Operand.tmp 36) 2, type := 0, pos := _, after := #[{ on := 13, ground := Ground.data }, { on := 4, ground := Ground.guard }], guard := some (4, true) }) (v := _) rfl (by kernel_rfl) (by kernel_rfl) (by kernel_rfl) (fun _ _ _ h => h) (Or.inl ⟨by rfl, by (intro wS hSw; (try dsimp only at hSw); go_simp; try with_reducible rfl)⟩) (by assumption) ?_
          (try simp only [Act.put, List.setIfInBounds_toArray, List.set_cons_zero, List.set_cons_succ])
          refine wpAnyH_take (i := 15) (oi := { dst := some 38, op := Op.load 3 (Operand.tmp 37), type := 3, pos := _, after := #[{ on := 14, ground := Ground.data }, { on := 4, ground := Ground.guard }], guard := some (4, true) }) (v := _) rfl (by kernel_rfl) (by kernel_rfl) (by kernel_rfl) (fun _ _ _ h => h) (Or.inl ⟨by rfl, by (intro wS hSw; (try dsimp only at hSw); go_simp; try with_reducible rfl)⟩) (by assumption) ?_
          (try simp only [Act.put, List.setIfInBounds_toArray, List.set_cons_zero, List.set_cons_succ])
          refine wpAnyH_take (i := 16) (oi := { dst := some 39, op := Op.binOp BinOp.geq 3 (Operand.tmp 34) (Operand.tmp 38) 3, type := 4, pos := _, after := #[{ on := 11, ground := Ground.data }, { on := 15, ground := Ground.data }, { on := 4, ground := Ground.guard }], guard := some (4, true) }) (v := _) rfl (by kernel_rfl) (by kernel_rfl) (by kernel_rfl) (fun _ _ _ h => h) (Or.inl ⟨by rfl, by (intro wS hSw; (try dsimp only at hSw); go_simp; try with_reducible rfl)⟩) (by assumption) ?_
          (try simp only [Act.put, List.setIfInBounds_toArray, List.set_cons_zero, List.set_cons_succ])
          refine wpAnyH_take (i := 17) (oi := { dst := some 40, op := Op.pick (Operand.tmp 27) (Operand.tmp 39) (Operand.const (Value.bool false)), type := 4, pos := _, after := #[{ on := 4, ground := Ground.data }, { on := 16, ground := Ground.data }], guard := none }) (v := _) rfl (by kernel_rfl) (by kernel_rfl) (by kernel_rfl) (fun _ _ _ h => h) (Or.inl ⟨by rfl, by (intro wS hSw; (try dsimp only at hSw); go_simp; try with_reducible rfl)⟩) (by assumption) ?_
          (try simp only [Act.put, List.setIfInBounds_toArray, List.set_cons_zero, List.set_cons_succ])
          refine wpAnyH_done (by kernel_rfl) ?_ _

          rw [IntWalk.i64_in (nw - x.t) (by omega)]
          go_wp2_with (at_builtin
                       refine wpList_app1 _ rfl (.tmp 41) (.tmp 47) 32 rfl 34 i0 _ 2 16 Try.underlying32 hi0 hz0 hz1 hz2 rfl (by omega) A' n' c' (pcells (overP nw t.to (t.D.take k))) rfl (by exact (HS'.out.alloc _).alloc _) _ _ _ rfl (by exact SRC.out.drew) rfl rfl (by omega) (by omega) ?_
                       intro A2 cd2 w3 hs3 hk3 hb3
                       have HS3 := Lib.hid hs3
                       have HK3 := Lib.hid hk3.undrew
                       have HB3 := Lib.hid hb3
                       clear hs3 hk3 hb3)
          go_roundw
          case rel =>
            refine ⟨k + 1, by omega, by go_num, ?_⟩
            rw [HOP.out, if_pos HLT.out]
            exact OvRel.app (wr := wr.alloc (.cells #[.int .i64 x.s, .int .i64 x.n, .int .i64 x.t, .int .i64 x.g, .int .i64 x.c] 56)) hgl.out HA.out HN'.out (HTR.out.keep0 KB.out) (HK'.out.trans (KB.out.mono HK'.out.size (by simp))) HBL.out HS3.out HK3.out HB3.out
          case measure => simp [intOf]; omega
        · have hlate : late nw t.to x = false := by unfold late; rw [hf, decide_eq_false hge]; rfl
          have HLT := Lib.hid hlate
          clear hf hlate
          go_wp2_with fail
          refine wp_region_held_drew (S := (fun w' => (w'.cell? ⟨wr.heap.size, 2, none⟩ = some (.int .i64 x.t) ∧ w'.cell? ⟨wr.heap.size, 3, none⟩ = some (.int .i64 x.g)) ∧ w'.cell? ⟨g, 1, none⟩ = some (.int .i64 nw) ∧ w'.cell? ⟨g, 2, none⟩ = some (.int .i64 t.to))) (by kernel_rfl) (by exact ⟨⟨b2, b3⟩, g1, g2⟩) (fun hHeld => ?_)
          refine wpAnyH_take (i := 0) (oi := { dst := some 23, op := Op.fieldAddr 56 (Operand.tmp 7) 3, type := 0, pos := _, after := #[], guard := none }) (v := _) rfl (by kernel_rfl) (by kernel_rfl) (by kernel_rfl) (fun _ _ _ h => h) (Or.inl ⟨by rfl, by (intro wS hSw; (try dsimp only at hSw); go_simp; try with_reducible rfl)⟩) (by assumption) ?_
          (try simp only [Act.put, List.setIfInBounds_toArray, List.set_cons_zero, List.set_cons_succ])
          refine wpAnyH_take (i := 1) (oi := { dst := some 24, op := Op.load 3 (Operand.tmp 23), type := 3, pos := _, after := #[{ on := 0, ground := Ground.data }], guard := none }) (v := _) rfl (by kernel_rfl) (by kernel_rfl) (by kernel_rfl) (fun _ _ _ h => h) (Or.inl ⟨by rfl, by (intro wS hSw; (try dsimp only at hSw); go_simp; try with_reducible rfl)⟩) (by assumption) ?_
          (try simp only [Act.put, List.setIfInBounds_toArray, List.set_cons_zero, List.set_cons_succ])
          refine wpAnyH_ready (rs := [2]) (by kernel_rfl) (by simp) ?_
          refine AllReadyH.cons (o := { dst := some 25, op := Op.call { callee := Callee.value (Operand.func 26), args := #[Operand.tmp 24], argTypes := #[3] }, type := 4, pos := _, after := #[{ on := 1, ground := Ground.data }], guard := none }) rfl (fun K hK => ?_) AllReadyH.nil
          go_simp
          refine (final_v _ x.g false (by exact HF.out)).mono ?_
          rintro e w5 ⟨rfl, rfl⟩
          refine hK.out _ _ (by exact ⟨⟨b2, b3⟩, g1, g2⟩) (fun hHeld => ?_)
          clear hK K
          (try simp only [Act.put, List.setIfInBounds_toArray, List.set_cons_zero, List.set_cons_succ])
          refine wpAnyH_take (i := 3) (oi := { dst := some 26, op := Op.unOp UnOp.not 4 (Operand.tmp 25), type := 4, pos := _, after := #[{ on := 2, ground := Ground.data }], guard := none }) (v := _) rfl (by kernel_rfl) (by kernel_rfl) (by kernel_rfl) (fun _ _ _ h => h) (Or.inl ⟨by rfl, by (intro wS hSw; (try dsimp only at hSw); go_simp; try with_reducible rfl)⟩) (by assumption) ?_
          (try simp only [Act.put, List.setIfInBounds_toArray, List.set_cons_zero, List.set_cons_succ])
          refine wpAnyH_take (i := 4) (oi := { dst := some 27, op := Op.move (Operand.tmp 26), type := 4, pos := _, after := #[{ on := 3, ground := Ground.data }, { on := 2, ground := Ground.chain }], guard := none }) (v := _) rfl (by kernel_rfl) (by kernel_rfl) (by kernel_rfl) (fun _ _ _ h => h) (Or.inl ⟨by rfl, by (intro wS hSw; (try dsimp only at hSw); go_simp; try with_reducible rfl)⟩) (by assumption) ?_
          (try simp only [Act.put, List.setIfInBounds_toArray, List.set_cons_zero, List.set_cons_succ])
          refine wpAnyH_take (i := 5) (oi := { dst := some 28, op := Op.move (Operand.tmp 0), type := 24, pos := _, after := #[{ on := 4, ground := Ground.guard }], guard := some (4, true) }) (v := _) rfl (by kernel_rfl) (by kernel_rfl) (by kernel_rfl) (fun _ _ _ h => h) (Or.inl ⟨by rfl, by (intro wS hSw; (try dsimp only at hSw); go_simp; try with_reducible rfl)⟩) (by assumption) ?_
          (try simp only [Act.put, List.setIfInBounds_toArray, List.set_cons_zero, List.set_cons_succ])
          refine wpAnyH_take (i := 6) (oi := { dst := some 29, op := Op.nilCheck (Operand.tmp 28), type := 0, pos := _, after := #[{ on := 5, ground := Ground.data }, { on := 4, ground := Ground.guard }], guard := some (4, true) }) (v := _) rfl (by kernel_rfl) (by kernel_rfl) (by kernel_rfl) (fun _ _ _ h => h) (Or.inl ⟨by rfl, by (intro wS hSw; (try dsimp only at hSw); go_simp; try with_reducible rfl)⟩) (by assumption) ?_
          (try simp only [Act.put, List.setIfInBounds_toArray, List.set_cons_zero, List.set_cons_succ])
          refine wpAnyH_take (i := 7) (oi := { dst := some 30, op := Op.fieldAddr 51 (Operand.tmp 29) 1, type := 0, pos := _, after := #[{ on := 6, ground := Ground.data }, { on := 4, ground := Ground.guard }], guard := some (4, true) }) (v := _) rfl (by kernel_rfl) (by kernel_rfl) (by kernel_rfl) (fun _ _ _ h => h) (Or.inl ⟨by rfl, by (intro wS hSw; (try dsimp only at hSw); go_simp; try with_reducible rfl)⟩) (by assumption) ?_
          (try simp only [Act.put, List.setIfInBounds_toArray, List.set_cons_zero, List.set_cons_succ])
          refine wpAnyH_take (i := 8) (oi := { dst := some 31, op := Op.load 3 (Operand.tmp 30), type := 3, pos := _, after := #[{ on := 7, ground := Ground.data }, { on := 4, ground := Ground.guard }], guard := some (4, true) }) (v := _) rfl (by kernel_rfl) (by kernel_rfl) (by kernel_rfl) (fun _ _ _ h => h) (Or.inl ⟨by rfl, by (intro wS hSw; (try dsimp only at hSw); go_simp; try with_reducible rfl)⟩) (by assumption) ?_
          (try simp only [Act.put, List.setIfInBounds_toArray, List.set_cons_zero, List.set_cons_succ])
          refine wpAnyH_take (i := 9) (oi := { dst := some 32, op := Op.fieldAddr 56 (Operand.tmp 7) 2, type := 0, pos := _, after := #[{ on := 4, ground := Ground.guard }], guard := some (4, true) }) (v := _) rfl (by kernel_rfl) (by kernel_rfl) (by kernel_rfl) (fun _ _ _ h => h) (Or.inl ⟨by rfl, by (intro wS hSw; (try dsimp only at hSw); go_simp; try with_reducible rfl)⟩) (by assumption) ?_
          (try simp only [Act.put, List.setIfInBounds_toArray, List.set_cons_zero, List.set_cons_succ])
          refine wpAnyH_take (i := 10) (oi := { dst := some 33, op := Op.load 3 (Operand.tmp 32), type := 3, pos := _, after := #[{ on := 9, ground := Ground.data }, { on := 4, ground := Ground.guard }], guard := some (4, true) }) (v := _) rfl (by kernel_rfl) (by kernel_rfl) (by kernel_rfl) (fun _ _ _ h => h) (Or.inl ⟨by rfl, by (intro wS hSw; (try dsimp only at hSw); go_simp; try with_reducible rfl)⟩) (by assumption) ?_
          (try simp only [Act.put, List.setIfInBounds_toArray, List.set_cons_zero, List.set_cons_succ])
          refine wpAnyH_take (i := 11) (oi := { dst := some 34, op := Op.binOp BinOp.sub 3 (Operand.tmp 31) (Operand.tmp 33) 3, type := 3, pos := _, after := #[{ on := 8, ground := Ground.data }, { on := 10, ground := Ground.data }, { on := 4, ground := Ground.guard }], guard := some (4, true) }) (v := _) rfl (by kernel_rfl) (by kernel_rfl) (by kernel_rfl) (fun _ _ _ h => h) (Or.inl ⟨by rfl, by (intro wS hSw; (try dsimp only at hSw); go_simp; try with_reducible rfl)⟩) (by assumption) ?_
          (try simp only [Act.put, List.setIfInBounds_toArray, List.set_cons_zero, List.set_cons_succ])
          refine wpAnyH_take (i := 12) (oi := { dst := some 35, op := Op.move (Operand.tmp 0), type := 24, pos := _, after := #[{ on := 4, ground := Ground.guard }], guard := some (4, true) }) (v := _) rfl (by kernel_rfl) (by kernel_rfl) (by kernel_rfl) (fun _ _ _ h => h) (Or.inl ⟨by rfl, by (intro wS hSw; (try dsimp only at hSw); go_simp; try with_reducible rfl)⟩) (by assumption) ?_
          (try simp only [Act.put, List.setIfInBounds_toArray, List.set_cons_zero, List.set_cons_succ])
          refine wpAnyH_take (i := 13) (oi := { dst := some 36, op := Op.nilCheck (Operand.tmp 35), type := 0, pos := _, after := #[{ on := 12, ground := Ground.data }, { on := 4, ground := Ground.guard }], guard := some (4, true) }) (v := _) rfl (by kernel_rfl) (by kernel_rfl) (by kernel_rfl) (fun _ _ _ h => h) (Or.inl ⟨by rfl, by (intro wS hSw; (try dsimp only at hSw); go_simp; try with_reducible rfl)⟩) (by assumption) ?_
          (try simp only [Act.put, List.setIfInBounds_toArray, List.set_cons_zero, List.set_cons_succ])
          refine wpAnyH_take (i := 14) (oi := { dst := some 37, op := Op.fieldAddr 51 (Operand.tmp 36) 2, type := 0, pos := _, after := #[{ on := 13, ground := Ground.data }, { on := 4, ground := Ground.guard }], guard := some (4, true) }) (v := _) rfl (by kernel_rfl) (by kernel_rfl) (by kernel_rfl) (fun _ _ _ h => h) (Or.inl ⟨by rfl, by (intro wS hSw; (try dsimp only at hSw); go_simp; try with_reducible rfl)⟩) (by assumption) ?_
          (try simp only [Act.put, List.setIfInBounds_toArray, List.set_cons_zero, List.set_cons_succ])
          refine wpAnyH_take (i := 15) (oi := { dst := some 38, op := Op.load 3 (Operand.tmp 37), type := 3, pos := _, after := #[{ on := 14, ground := Ground.data }, { on := 4, ground := Ground.guard }], guard := some (4, true) }) (v := _) rfl (by kernel_rfl) (by kernel_rfl) (by kernel_rfl) (fun _ _ _ h => h) (Or.inl ⟨by rfl, by (intro wS hSw; (try dsimp only at hSw); go_simp; try with_reducible rfl)⟩) (by assumption) ?_
          (try simp only [Act.put, List.setIfInBounds_toArray, List.set_cons_zero, List.set_cons_succ])
          refine wpAnyH_take (i := 16) (oi := { dst := some 39, op := Op.binOp BinOp.geq 3 (Operand.tmp 34) (Operand.tmp 38) 3, type := 4, pos := _, after := #[{ on := 11, ground := Ground.data }, { on := 15, ground := Ground.data }, { on := 4, ground := Ground.guard }], guard := some (4, true) }) (v := _) rfl (by kernel_rfl) (by kernel_rfl) (by kernel_rfl) (fun _ _ _ h => h) (Or.inl ⟨by rfl, by (intro wS hSw; (try dsimp only at hSw); go_simp; try with_reducible rfl)⟩) (by assumption) ?_
          (try simp only [Act.put, List.setIfInBounds_toArray, List.set_cons_zero, List.set_cons_succ])
          refine wpAnyH_take (i := 17) (oi := { dst := some 40, op := Op.pick (Operand.tmp 27) (Operand.tmp 39) (Operand.const (Value.bool false)), type := 4, pos := _, after := #[{ on := 4, ground := Ground.data }, { on := 16, ground := Ground.data }], guard := none }) (v := _) rfl (by kernel_rfl) (by kernel_rfl) (by kernel_rfl) (fun _ _ _ h => h) (Or.inl ⟨by rfl, by (intro wS hSw; (try dsimp only at hSw); go_simp; try with_reducible rfl)⟩) (by assumption) ?_
          (try simp only [Act.put, List.setIfInBounds_toArray, List.set_cons_zero, List.set_cons_succ])
          refine wpAnyH_done (by kernel_rfl) ?_ _

          rw [IntWalk.i64_in (nw - x.t) (by omega)]
          go_wp2_with fail
          go_roundw
          case rel =>
            refine ⟨k + 1, by omega, by go_num, ?_⟩
            rw [HOP.out, if_neg (by rw [HLT.out]; decide), List.append_nil]
            exact NEXT.out
          case measure => simp [intOf]; omega
    · obtain rfl : k = m := by omega
      clear hs' ht' hk' hbl' hn'
      go_wp2_with fail
      go_ret
      have := HR.out
      rw [HM.out, List.take_length, HL.out] at this
      exact ⟨_, rfl, this⟩
end Go.Proofs.Ytcpfdkmdhpclkaa
