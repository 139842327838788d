/- The law's image of a state. -/
import Derived.Test.YtfkbcflgbjncdaaChF
namespace Go.Proofs.Ytfkbcflgbjncdaa
set_option linter.unusedVariables false
set_option linter.unusedSimpArgs false
open Go.RowKit
/-! ### marking, plainly -/
structure LInv (L : List Rc) : Prop where
  l16 : L.length = 16
  ok : ∀ r ∈ L, RcOk r
  rt : ∀ r ∈ L, rightB r = true
theorem linv_zero : LInv zeroL := by
  refine ⟨rfl, fun r hr => ?_, fun r hr => ?_⟩
  all_goals obtain rfl := List.eq_of_mem_replicate hr
  · exact ⟨⟨by simp, by simp⟩, by simp, by simp⟩
  · unfold rightB; rw [if_pos rfl]; decide
def mk1 (L : List Rc) (m : Int) : List Rc := (markL L 1 m).1
def markAll (ms : List Int) : List Rc := ms.foldl mk1 zeroL
theorem mk1_cases {L : List Rc} (h : LInv L) (m : Int) : (markL L 1 m = (L, 1) ∧ okN m = false) ∨ ∃ r, L[1]? = some r ∧ okN m = true ∧ ((seenB r m = true ∧ markL L 1 m = (L, 9)) ∨ (MkR r m ∧ markL L 1 m = (L.set 1 (markR r m), 0))) := by
  cases hn : okN m with
  | false => exact .inl ⟨markL_bad (.inr hn), rfl⟩
  | true =>
    obtain ⟨r, hr⟩ : ∃ r, L[1]? = some r := ⟨_, List.getElem?_eq_getElem (by rw [h.l16]; decide)⟩
    refine .inr ⟨_, hr, rfl, ?_⟩
    have ha := markL_at (i := 1) (by decide) hn hr
    cases hs : seenB r m with
    | true => rw [hs] at ha; exact .inl ⟨rfl, ha⟩
    | false =>
      rw [hs] at ha
      exact .inr ⟨⟨h.ok _ (List.mem_of_getElem? hr), okN_iff.1 hn, hs⟩, ha⟩
theorem mk1_inv {L : List Rc} (h : LInv L) (m : Int) : LInv (mk1 L m) := by
  unfold mk1
  rcases mk1_cases h m with ⟨h1, _⟩ | ⟨r, hr, hn, ⟨_, h1⟩ | ⟨hm, h1⟩⟩
  · rw [h1]; exact h
  · rw [h1]; exact h
  · rw [h1]
    refine ⟨by simp [h.l16], fun x hx => ?_, fun x hx => ?_⟩
    · rcases List.mem_or_eq_of_mem_set hx with hx | rfl
      · exact h.ok x hx
      · exact markR_ok hm.ok hn hm.ns
    · rcases List.mem_or_eq_of_mem_set hx with hx | rfl
      · exact h.rt x hx
      · exact right_mark hm (h.rt r (List.mem_of_getElem? hr))
theorem seenL1 {L : List Rc} (h : LInv L) (m : Int) : seenL L 1 m = true ↔ (okN m = false ∨ ∃ r, L[1]? = some r ∧ seenB r m = true) := by
  obtain ⟨r, hr⟩ : ∃ r, L[1]? = some r := ⟨_, List.getElem?_eq_getElem (by rw [h.l16]; decide)⟩
  cases hn : okN m with
  | false => simp [seenL_bad (.inr hn)]
  | true =>
    have ha := seenL_at (i := 1) (by decide) hn hr
    rw [show ((1 : Nat) : Int) = 1 from rfl] at ha
    rw [ha, hr]
    simp
theorem mk1_seen {L : List Rc} (h : LInv L) (m k : Int) (hk : k = m ∨ seenL L 1 k = true) : seenL (mk1 L m) 1 k = true := by
  rw [seenL1 (mk1_inv h m)]
  by_cases hok : okN k = false
  · exact .inl hok
  right
  unfold mk1
  rcases mk1_cases h m with ⟨h1, h2⟩ | ⟨r, hr, hn, ⟨hs, h1⟩ | ⟨hm, h1⟩⟩
  · rw [h1]
    rcases hk with rfl | hk
    · exact absurd h2 hok
    · rcases (seenL1 h k).1 hk with h3 | h3
      · exact absurd h3 hok
      · exact h3
  · rw [h1]
    rcases hk with rfl | hk
    · exact ⟨r, hr, hs⟩
    · rcases (seenL1 h k).1 hk with h3 | h3
      · exact absurd h3 hok
      · exact h3
  · rw [h1]
    have hl : 1 < L.length := by rw [h.l16]; decide
    refine ⟨markR r m, List.getElem?_set_self hl, ?_⟩
    rcases hk with rfl | hk
    · exact seen_marked hm
    · rcases (seenL1 h k).1 hk with h3 | ⟨r', hr', h3⟩
      · exact absurd h3 hok
      · rw [hr] at hr'; cases hr'
        exact seen_mono hm h3
theorem markAll_snoc (ms : List Int) (m : Int) : markAll (ms ++ [m]) = mk1 (markAll ms) m := by simp [markAll]
theorem fold_inv : ∀ (ms : List Int) (L : List Rc), LInv L → LInv (ms.foldl mk1 L)
  | [], L, h => h
  | m :: ms, L, h => fold_inv ms _ (mk1_inv h m)
theorem markAll_inv (ms : List Int) : LInv (markAll ms) := fold_inv ms _ linv_zero
theorem fold_seen : ∀ (ms : List Int) (L : List Rc), LInv L → ∀ k, (k ∈ ms ∨ seenL L 1 k = true) → seenL (ms.foldl mk1 L) 1 k = true
  | [], L, h, k, hk => by simpa using hk
  | m :: ms, L, h, k, hk => by
    refine fold_seen ms _ (mk1_inv h m) k ?_
    rcases hk with hk | hk
    · rcases List.mem_cons.1 hk with rfl | hk
      · exact .inr (mk1_seen h _ _ (.inl rfl))
      · exact .inl hk
    · exact .inr (mk1_seen h _ _ (.inr hk))
theorem markAll_seen {ms : List Int} {k : Int} (hk : k ∈ ms) : seenL (markAll ms) 1 k = true := fold_seen ms _ linv_zero k (.inl hk)
/-- what was marked is refused -/
theorem marked_again {L : List Rc} (h : LInv L) {k : Int} (hs : seenL L 1 k = true) : ∃ e, markL L 1 k = (L, e) ∧ e ≠ 0 := by
  rcases mk1_cases h k with ⟨h1, _⟩ | ⟨r, hr, hn, ⟨_, h1⟩ | ⟨hm, _⟩⟩
  · exact ⟨1, h1, by decide⟩
  · exact ⟨9, h1, by decide⟩
  · exfalso
    rcases (seenL1 h k).1 hs with h3 | ⟨r', hr', h3⟩
    · rw [hn] at h3; cases h3
    · rw [hr] at hr'; cases hr'
      have := hm.ns
      rw [h3] at this; cases this
/-! ### the walk -/
abbrev TSt : TypeId := 49
structure Stt where
  boots : Int
  mode : Int
  time : Int
  next : Int
  marks : List Int
  done : List Fi
def Stt.ck (x : Stt) : Ck := ⟨x.boots, x.mode, x.time, x.next, markAll x.marks, x.done⟩
def i64s (l : List Int) : List Value := l.map (Value.int .i64)
def scs (x : Stt) (l : CL) : Array Value := #[.int .i64 x.boots, .int .i64 x.mode, .int .i64 x.time, .slice l.X l.m l.c, .slice l.Y l.n l.d, .int .i64 x.next]
structure SIn (w : World) (x : Stt) (l : CL) : Prop where
  vm : Vw w l.X l.m 1 (i64s x.marks)
  vd : Vw w l.Y l.n 2 (x.done.flatMap fcells)
  cm : l.m ≤ l.c ∧ l.c ≤ maxLen
  cd : l.n ≤ l.d ∧ l.d ≤ maxLen
theorem SIn.keep0 {w w' : World} {x : Stt} {l : CL} (h : SIn w x l) (k : Keep w.heap.size [] w w') : SIn w' x l := ⟨h.vm.keep0 k, h.vd.keep0 k, h.cm, h.cd⟩
theorem SIn.keepS {w w' : World} {x : Stt} {l : CL} {S : List Nat} (h : SIn w x l) (k : Keep w.heap.size S w w') (hX : ∀ y, y ∈ blks l.X → y ∉ S) (hY : ∀ y, y ∈ blks l.Y → y ∉ S) : SIn w' x l := ⟨h.vm.keepS k hX, h.vd.keepS k hY, h.cm, h.cd⟩
theorem SIn.mlen {w : World} {x : Stt} {l : CL} (h : SIn w x l) : l.m = x.marks.length := by have := h.vm.1; simp [i64s] at this; omega
theorem SIn.dlen {w : World} {x : Stt} {l : CL} (h : SIn w x l) : l.n = x.done.length := by have := h.vd.1; rw [fcells_len] at this; omega
theorem i64s_at {l : List Int} {k : Nat} {u : Value} (h : (i64s l)[k]? = some u) : ∃ x, l[k]? = some x ∧ u = .int .i64 x := by
  simp only [i64s, List.getElem?_map] at h
  cases hl : l[k]? with
  | none => rw [hl] at h; cases h
  | some x => rw [hl] at h; exact ⟨x, rfl, (Option.some.inj h).symm⟩
def ImPost (w : World) (x : Stt) (e : Ending) (w' : World) : Prop :=
  Keep w.heap.size [] w w' ∧ ((ckOk x.ck = false ∧ e = .returned (.tuple #[.slice none 0 0, .bool false])) ∨
  (ckOk x.ck = true ∧ ∃ A m c', e = .returned (.tuple #[.slice A m c', .bool true]) ∧ m = (encC x.ck).length ∧ Sl w' 5 1 A m c' (octs (encC x.ck)) ∧ ∀ y, y ∈ blks A → w.heap.size ≤ y))
set_option maxRecDepth 100000 in
set_option maxHeartbeats 8000000 in
theorem image_t (w : World) (x : Stt) (l : CL) (hp : SIn w x l) (hn : l.n ≤ 20) : Calls Try.prog 18 #[.agg (scs x l)] w (ImPost w x) := by
  obtain ⟨X, m, cc, Y, n, d⟩ := l
  have k1 : Keep w.heap.size [] w (w.alloc (.cells (scs x ⟨X, m, cc, Y, n, d⟩) TSt)) := (Keep.refl _ _ w).alloc (Nat.le_refl _) _
  have hb := Blk.new w TSt (scs x ⟨X, m, cc, Y, n, d⟩)
  obtain ⟨W0, hW0⟩ : ∃ W0, W0 = w.alloc (.cells (scs x ⟨X, m, cc, Y, n, d⟩) TSt) := ⟨_, rfl⟩
  rw [← hW0] at hb k1
  obtain ⟨p, hpp⟩ : ∃ p, p = w.heap.size := ⟨_, rfl⟩
  rw [← hpp] at hb
  have K0 := Lib.hid k1
  have B0 := Lib.hid hb
  have P0 := Lib.hid (hp.keep0 k1)
  have HM : Hid (m = x.marks.length) := Lib.hid hp.mlen
  have hmc : Hid (m ≤ cc ∧ cc ≤ maxLen) := Lib.hid hp.cm
  have hmcI : (m : Int) ≤ (cc : Int) := by have := hmc.out; omega
  have hcI : (cc : Int) ≤ 9223372036854775807 := by have := hmc.out.2; unfold maxLen at this; omega
  clear k1 hb hp
  go_enter Try.func18, Try.ntmps18
  go_upto_region 1 with fail
  change Code.wp _ _ _ _ (w.alloc (.cells (scs x ⟨X, m, cc, Y, n, d⟩) TSt))
  rw [← hW0, ← hpp]
  clear hW0 hpp
  go_wp2_with fail
  refine (new_any _).mono ?_
  rintro e w1 ⟨g, rfl, hg, hl, hk⟩
  have L1 := Lib.hid hl
  have K1 := Lib.hid (K0.out.chain0 (Nat.le_refl _) hk)
  have B1 := Lib.hid (B0.out.keepS hk (by simp))
  have P1 := Lib.hid (P0.out.keep0 hk)
  have hgw : w.heap.size ≤ g := by have := K0.out.size; omega
  have hgp : p ≠ g := by have := B0.out.lt; omega
  have HNG : Hid (∀ y, y ∈ blks X → 0 < m → y ≠ g) := Lib.hid (fun y hy hm => by have := P0.out.vm.old hm y hy; omega)
  have HNY : Hid (∀ y, y ∈ blks Y → 0 < n → y ≠ g) := Lib.hid (fun y hy hm => by have := P0.out.vd.old hm y hy; omega)
  clear hg hl hk
  go_wp2_with fail
  go_loopw [5] (fun j wr => ∃ (k : Nat), k ≤ m ∧ j = .int .i64 k ∧ Led wr g (markAll (x.marks.take k)) ∧ Keep w1.heap.size [g] w1 wr) (fun j _ => m - (intOf j).toNat)
  case atStart => exact ⟨0, Nat.zero_le _, rfl, by rw [List.take_zero]; exact L1.out, Keep.refl _ _ _⟩
  case round =>
    obtain ⟨k, hk, rfl, hld, hkv⟩ := hrel
    have LK := Lib.hid hld
    have KV := Lib.hid hkv
    have BK := Lib.hid (B1.out.keepS KV.out (by simpa using hgp))
    have q3 : wr.cell? ⟨p, 3, none⟩ = some (.slice X m cc) := BK.out.cell 3
    clear hld hkv
    by_cases hlt : k < m
    · have hki : (k : Int) < (m : Int) := by omega
      obtain ⟨b, o, u, rfl, _, hu, d0⟩ := (P1.out.vm.keepP KV.out (fun h0 y hy => by simpa using HNG.out y hy h0)).at_ hlt
      obtain ⟨z, hz, rfl⟩ := i64s_at hu
      have htk : markAll (x.marks.take (k + 1)) = mk1 (markAll (x.marks.take k)) z := by rw [List.take_add_one, hz, ← markAll_snoc]; rfl
      have HTK := Lib.hid htk
      clear htk hz hu
      go_wp2_with fail
      refine (mark_any _ g _ 1 z _ rfl LK.out).mono ?_
      rintro e w2 ⟨rfl, hl2, hk2⟩
      have L2 := Lib.hid hl2
      have KV2 := Lib.hid (KV.out.trans (hk2.mono KV.out.size (fun _ _ h => h)))
      clear hl2 hk2 d0
      go_wp2_with fail
      go_roundw
      case rel => exact ⟨k + 1, by omega, by go_num, by rw [HTK.out]; exact L2.out, KV2.out⟩
      case measure => simp [intOf] <;> omega
    · obtain rfl : k = m := by omega
      have ht : x.marks.take k = x.marks := by rw [HM.out, List.take_length]
      have LF : Hid (Led wr g (markAll x.marks)) := Lib.hid (by have h := LK.out; rw [ht] at h; exact h)
      have KW : Hid (Keep w.heap.size [] w wr) := Lib.hid (K1.out.chain1 (Nat.le_refl _) KV.out hgw)
      have PF : Hid (Vw wr Y n 2 (x.done.flatMap fcells)) := Lib.hid (P1.out.vd.keepP KV.out (fun h0 y hy => by simpa using HNY.out y hy h0))
      clear ht
      go_wp2_with fail
      refine region_anyZ 14 (S := (fun w' => w'.cell? ⟨p, 0, none⟩ = some (.int .i64 x.boots) ∧ w'.cell? ⟨p, 1, none⟩ = some (.int .i64 x.mode) ∧ w'.cell? ⟨p, 2, none⟩ = some (.int .i64 x.time) ∧ w'.cell? ⟨p, 4, none⟩ = some (.slice Y n d) ∧ w'.cell? ⟨p, 5, none⟩ = some (.int .i64 x.next))) (by kernel_rfl) (by exact ⟨BK.out.cell 0, BK.out.cell 1, BK.out.cell 2, BK.out.cell 4, BK.out.cell 5⟩) (fun hHeld => ?_)
      refine anyZ.take (i := 0) (oi := { dst := some 24, op := Op.fieldAddr 49 (Operand.tmp 1) 0, type := 0, pos := _, after := #[], guard := none }) (v := _) rfl (by kernel_rfl) (by kernel_rfl) (by kernel_rfl) (by kernel_rfl) (by kernel_rfl) (fun _ _ _ h => h) (Or.inl ⟨by rfl, by (intro wS hSw; (try dsimp only at hSw); go_simp; try with_reducible rfl)⟩) (by exact hHeld) ?_
      (try simp only [Act.put, List.setIfInBounds_toArray, List.set_cons_zero, List.set_cons_succ])
      refine anyZ.take (i := 1) (oi := { dst := some 25, op := Op.load 3 (Operand.tmp 24), type := 3, pos := _, after := #[{ on := 0, ground := Ground.data }], guard := none }) (v := _) rfl (by kernel_rfl) (by kernel_rfl) (by kernel_rfl) (by kernel_rfl) (by kernel_rfl) (fun _ _ _ h => h) (Or.inl ⟨by rfl, by (intro wS hSw; (try dsimp only at hSw); go_simp; try with_reducible rfl)⟩) (by exact hHeld) ?_
      (try simp only [Act.put, List.setIfInBounds_toArray, List.set_cons_zero, List.set_cons_succ])
      refine anyZ.take (i := 2) (oi := { dst := some 26, op := Op.fieldAddr 49 (Operand.tmp 1) 1, type := 0, pos := _, after := #[], guard := none }) (v := _) rfl (by kernel_rfl) (by kernel_rfl) (by kernel_rfl) (by kernel_rfl) (by kernel_rfl) (fun _ _ _ h => h) (Or.inl ⟨by rfl, by (intro wS hSw; (try dsimp only at hSw); go_simp; try with_reducible rfl)⟩) (by exact hHeld) ?_
      (try simp only [Act.put, List.setIfInBounds_toArray, List.set_cons_zero, List.set_cons_succ])
      refine anyZ.take (i := 3) (oi := { dst := some 27, op := Op.load 3 (Operand.tmp 26), type := 3, pos := _, after := #[{ on := 2, ground := Ground.data }], guard := none }) (v := _) rfl (by kernel_rfl) (by kernel_rfl) (by kernel_rfl) (by kernel_rfl) (by kernel_rfl) (fun _ _ _ h => h) (Or.inl ⟨by rfl, by (intro wS hSw; (try dsimp only at hSw); go_simp; try with_reducible rfl)⟩) (by exact hHeld) ?_
      (try simp only [Act.put, List.setIfInBounds_toArray, List.set_cons_zero, List.set_cons_succ])
      refine anyZ.take (i := 4) (oi := { dst := some 28, op := Op.fieldAddr 49 (Operand.tmp 1) 2, type := 0, pos := _, after := #[], guard := none }) (v := _) rfl (by kernel_rfl) (by kernel_rfl) (by kernel_rfl) (by kernel_rfl) (by kernel_rfl) (fun _ _ _ h => h) (Or.inl ⟨by rfl, by (intro wS hSw; (try dsimp only at hSw); go_simp; try with_reducible rfl)⟩) (by exact hHeld) ?_
      (try simp only [Act.put, List.setIfInBounds_toArray, List.set_cons_zero, List.set_cons_succ])
      refine anyZ.take (i := 5) (oi := { dst := some 29, op := Op.load 3 (Operand.tmp 28), type := 3, pos := _, after := #[{ on := 4, ground := Ground.data }], guard := none }) (v := _) rfl (by kernel_rfl) (by kernel_rfl) (by kernel_rfl) (by kernel_rfl) (by kernel_rfl) (fun _ _ _ h => h) (Or.inl ⟨by rfl, by (intro wS hSw; (try dsimp only at hSw); go_simp; try with_reducible rfl)⟩) (by exact hHeld) ?_
      (try simp only [Act.put, List.setIfInBounds_toArray, List.set_cons_zero, List.set_cons_succ])
      refine anyZ.take (i := 6) (oi := { dst := some 30, op := Op.move (Operand.tmp 4), type := 23, pos := _, after := #[], guard := none }) (v := _) rfl (by kernel_rfl) (by kernel_rfl) (by kernel_rfl) (by kernel_rfl) (by kernel_rfl) (fun _ _ _ h => h) (Or.inl ⟨by rfl, by (intro wS hSw; (try dsimp only at hSw); go_simp; try with_reducible rfl)⟩) (by exact hHeld) ?_
      (try simp only [Act.put, List.setIfInBounds_toArray, List.set_cons_zero, List.set_cons_succ])
      refine anyZ.take (i := 8) (oi := { dst := some 32, op := Op.fieldAddr 49 (Operand.tmp 1) 4, type := 0, pos := _, after := #[], guard := none }) (v := _) rfl (by kernel_rfl) (by kernel_rfl) (by kernel_rfl) (by kernel_rfl) (by kernel_rfl) (fun _ _ _ h => h) (Or.inl ⟨by rfl, by (intro wS hSw; (try dsimp only at hSw); go_simp; try with_reducible rfl)⟩) (by exact hHeld) ?_
      (try simp only [Act.put, List.setIfInBounds_toArray, List.set_cons_zero, List.set_cons_succ])
      refine anyZ.take (i := 9) (oi := { dst := some 33, op := Op.load 47 (Operand.tmp 32), type := 47, pos := _, after := #[{ on := 8, ground := Ground.data }], guard := none }) (v := _) rfl (by kernel_rfl) (by kernel_rfl) (by kernel_rfl) (by kernel_rfl) (by kernel_rfl) (fun _ _ _ h => h) (Or.inl ⟨by rfl, by (intro wS hSw; (try dsimp only at hSw); go_simp; try with_reducible rfl)⟩) (by exact hHeld) ?_
      (try simp only [Act.put, List.setIfInBounds_toArray, List.set_cons_zero, List.set_cons_succ])
      refine anyZ.take (i := 10) (oi := { dst := some 34, op := Op.fieldAddr 49 (Operand.tmp 1) 5, type := 0, pos := _, after := #[], guard := none }) (v := _) rfl (by kernel_rfl) (by kernel_rfl) (by kernel_rfl) (by kernel_rfl) (by kernel_rfl) (fun _ _ _ h => h) (Or.inl ⟨by rfl, by (intro wS hSw; (try dsimp only at hSw); go_simp; try with_reducible rfl)⟩) (by exact hHeld) ?_
      (try simp only [Act.put, List.setIfInBounds_toArray, List.set_cons_zero, List.set_cons_succ])
      refine anyZ.take (i := 11) (oi := { dst := some 35, op := Op.load 3 (Operand.tmp 34), type := 3, pos := _, after := #[{ on := 10, ground := Ground.data }], guard := none }) (v := _) rfl (by kernel_rfl) (by kernel_rfl) (by kernel_rfl) (by kernel_rfl) (by kernel_rfl) (fun _ _ _ h => h) (Or.inl ⟨by rfl, by (intro wS hSw; (try dsimp only at hSw); go_simp; try with_reducible rfl)⟩) (by exact hHeld) ?_
      (try simp only [Act.put, List.setIfInBounds_toArray, List.set_cons_zero, List.set_cons_succ])
      refine anyZ.ready (rs := [7, 13]) (by kernel_rfl) (by simp) ?_
      refine (AllZ.cons (o := { dst := some 31, op := Op.call { callee := Callee.value (Operand.func 21), args := #[Operand.tmp 30], argTypes := #[23] }, type := 35, pos := _, after := #[{ on := 6, ground := Ground.data }], guard := none }) rfl (fun K hK => ?_) (AllZ.cons (o := { dst := some 6, op := Op.alloc 64, type := 0, pos := _, after := #[], guard := none }) rfl (fun K hK => ?_) AllZ.nil))
      · go_simp
        refine (image_any _ g (markAll x.marks) (by exact LF.out)).mono ?_
        rintro e V7 ⟨A3, n3, c3, rfl, hn3, hs3, hk3, hb3⟩
        have K7 := Lib.hid (KW.out.chain0 (Nat.le_refl _) hk3.undrew)
        have B7 := Lib.hid (BK.out.keepS hk3.undrew (by simp))
        have Y7 := Lib.hid (PF.out.keep0 hk3.undrew)
        have S7 := Lib.hid hs3
        have A7 : Hid (∀ y, y ∈ blks A3 → wr.heap.size ≤ y) := Lib.hid hb3
        have HV7 : Hid (wr.heap.size ≤ V7.heap.size) := Lib.hid (by have h0 := hk3.size; exact h0)
        clear hn3 hs3 hk3 hb3
        refine hK.out _ _ (fun _ => (by exact ⟨B7.out.cell 0, B7.out.cell 1, B7.out.cell 2, B7.out.cell 4, B7.out.cell 5⟩)) (fun hHeld => ?_)
        clear hK K
        replace hHeld := hHeld (by kernel_rfl)
        (try simp only [Act.put, List.setIfInBounds_toArray, List.set_cons_zero, List.set_cons_succ])
        refine anyZ.take (i := 12) (oi := { dst := some 36, op := Op.build 64 #[(0, Operand.tmp 25), (1, Operand.tmp 27), (2, Operand.tmp 29), (3, Operand.tmp 31), (6, Operand.tmp 33), (7, Operand.tmp 35)], type := 64, pos := _, after := #[{ on := 1, ground := Ground.data }, { on := 3, ground := Ground.data }, { on := 5, ground := Ground.data }, { on := 7, ground := Ground.data }, { on := 9, ground := Ground.data }, { on := 11, ground := Ground.data }], guard := none }) (v := _) rfl (by kernel_rfl) (by kernel_rfl) (by kernel_rfl) (by kernel_rfl) (by kernel_rfl) (fun _ _ _ h => h) (Or.inl ⟨by rfl, by (intro wS hSw; (try dsimp only at hSw); go_simp; try with_reducible rfl)⟩) (by exact hHeld) ?_
        (try simp only [Act.put, List.setIfInBounds_toArray, List.set_cons_zero, List.set_cons_succ])
        refine anyZ.ready (rs := [13]) (by kernel_rfl) (by simp) ?_
        refine (AllZ.cons (o := { dst := some 6, op := Op.alloc 64, type := 0, pos := _, after := #[], guard := none }) rfl (fun K hK => ?_) AllZ.nil)
        go_simp
        obtain ⟨V13, hV13⟩ : ∃ V, V = ((V7).alloc (.cells #[.int .i64 0, .int .i64 0, .int .i64 0, .slice none 0 0, .slice none 0 0, .slice none 0 0, .slice none 0 0, .int .i64 0] TC)) := ⟨_, rfl⟩
        obtain ⟨b, hb⟩ : ∃ b, b = (V7).heap.size := ⟨_, rfl⟩
        have ka : Keep (V7).heap.size [] (V7) V13 := by rw [hV13]; exact ((Keep.refl _ _ _).alloc (Nat.le_refl _) _)
        have K13 := Lib.hid (K7.out.chain0 (Nat.le_refl _) ka)
        have B13 := Lib.hid (B7.out.keepS ka (by simp))
        have Y13 := Lib.hid (Y7.out.keep0 ka)
        have Z13 : Hid (Blk V13 b TC #[.int .i64 0, .int .i64 0, .int .i64 0, .slice none 0 0, .slice none 0 0, .slice none 0 0, .slice none 0 0, .int .i64 0]) := Lib.hid (by rw [hV13, hb]; exact (Blk.new _ _ _))
        have S13 := Lib.hid (S7.out.keep0 ka)
        have hbw : Hid (w.heap.size ≤ b) := Lib.hid (by have h0 := K7.out.size; rw [hb]; exact h0)
        have hbA : Hid (b = V7.heap.size) := Lib.hid hb
        rw [← hV13, ← hb]
        clear hV13 hb ka
        refine hK.out _ _ (fun _ => (by exact ⟨B13.out.cell 0, B13.out.cell 1, B13.out.cell 2, B13.out.cell 4, B13.out.cell 5⟩)) (fun hHeld => ?_)
        clear hK K
        replace hHeld := hHeld (by kernel_rfl)
        (try simp only [Act.put, List.setIfInBounds_toArray, List.set_cons_zero, List.set_cons_succ])
        refine anyZ.ready (rs := [14]) (by kernel_rfl) (by simp) ?_
        refine (AllZ.cons (o := { dst := none, op := Op.store 64 (Operand.tmp 6) (Operand.tmp 36), type := 0, pos := _, after := #[{ on := 13, ground := Ground.data }, { on := 12, ground := Ground.data }, { on := 7, ground := Ground.chain }, { on := 0, ground := Ground.phase }, { on := 1, ground := Ground.phase }, { on := 2, ground := Ground.phase }, { on := 3, ground := Ground.phase }, { on := 4, ground := Ground.phase }, { on := 5, ground := Ground.phase }, { on := 6, ground := Ground.phase }, { on := 7, ground := Ground.phase }, { on := 8, ground := Ground.phase }, { on := 9, ground := Ground.phase }, { on := 10, ground := Ground.phase }, { on := 11, ground := Ground.phase }, { on := 12, ground := Ground.phase }, { on := 13, ground := Ground.phase }], guard := none }) rfl (fun K hK => ?_) AllZ.nil)
        have f0 := Z13.out.frozen 0
        have e0 : V13.cell? ⟨b, 0, none⟩ = some (.int .i64 0) := Z13.out.cell 0
        have f1 := Z13.out.frozen 1
        have e1 : V13.cell? ⟨b, 1, none⟩ = some (.int .i64 0) := Z13.out.cell 1
        have f2 := Z13.out.frozen 2
        have e2 : V13.cell? ⟨b, 2, none⟩ = some (.int .i64 0) := Z13.out.cell 2
        have f3 := Z13.out.frozen 3
        have e3 : V13.cell? ⟨b, 3, none⟩ = some (.slice none 0 0) := Z13.out.cell 3
        have f4 := Z13.out.frozen 4
        have e4 : V13.cell? ⟨b, 4, none⟩ = some (.slice none 0 0) := Z13.out.cell 4
        have f5 := Z13.out.frozen 5
        have e5 : V13.cell? ⟨b, 5, none⟩ = some (.slice none 0 0) := Z13.out.cell 5
        have f6 := Z13.out.frozen 6
        have e6 : V13.cell? ⟨b, 6, none⟩ = some (.slice none 0 0) := Z13.out.cell 6
        have f7 := Z13.out.frozen 7
        have e7 : V13.cell? ⟨b, 7, none⟩ = some (.int .i64 0) := Z13.out.cell 7
        go_simp
        refine hK.out _ _ (fun h => absurd h (by decide)) (fun hHeld => ?_)
        clear hK K
        (try simp only [Act.put, List.setIfInBounds_toArray, List.set_cons_zero, List.set_cons_succ])
        refine anyZ.done (by kernel_rfl) ?_ _
        clear hHeld
        obtain ⟨VF, hVF⟩ : ∃ V, V = ((((((((V13.setCell ⟨b, 0, none⟩ (.int .i64 x.boots)).setCell ⟨b, 1, none⟩ (.int .i64 x.mode)).setCell ⟨b, 2, none⟩ (.int .i64 x.time)).setCell ⟨b, 3, none⟩ (.slice A3 n3 c3)).setCell ⟨b, 4, none⟩ (.slice none 0 0)).setCell ⟨b, 5, none⟩ (.slice none 0 0)).setCell ⟨b, 6, none⟩ (.slice Y n d)).setCell ⟨b, 7, none⟩ (.int .i64 x.next)) := ⟨_, rfl⟩
        have hkf : Keep V13.heap.size [b] V13 VF := by rw [hVF]; exact (Keep.set1 (Keep.set1 (Keep.set1 (Keep.set1 (Keep.set1 (Keep.set1 (Keep.set1 (Keep.set1 (Keep.refl _ _ _)))))))))
        have hbf : Blk VF b TC (ccs x.ck ⟨A3, n3, c3, Y, n, d⟩) := by rw [hVF]; exact ((((((((Z13.out.set_ 0 (.int .i64 x.boots)).set_ 1 (.int .i64 x.mode)).set_ 2 (.int .i64 x.time)).set_ 3 (.slice A3 n3 c3)).set_ 4 (.slice none 0 0)).set_ 5 (.slice none 0 0)).set_ 6 (.slice Y n d)).set_ 7 (.int .i64 x.next))
        rw [← hVF]
        have KF : Hid (Keep w.heap.size [] w VF) := Lib.hid (K13.out.chain1 (Nat.le_refl _) hkf hbw.out)
        have HI := markAll_inv x.marks
        have hA3b : ∀ y, y ∈ blks A3 → y ≠ b := fun y hy => by have h1 := S7.out.blk hy; have h2 := hbA.out; omega
        have hYb : 0 < n → ∀ y, y ∈ blks Y → y ≠ b := fun h0 y hy => by have h1 := PF.out.old h0 y hy; have h2 := hbA.out; have h3 := HV7.out; omega
        have CI : Hid (CIn VF x.ck ⟨A3, n3, c3, Y, n, d⟩) := Lib.hid ⟨(S13.out.keepS hkf (fun y hy => by simpa using hA3b y hy)).vw (by omega), Y13.out.keepP hkf (fun h0 y hy => by simpa using hYb h0 y hy), S13.out.cap, P0.out.cd, HI.l16, HI.ok, HI.rt, (by show n ≤ 256; omega)⟩
        have BF := Lib.hid hbf
        clear e0 f0 e1 f1 e2 f2 e3 f3 e4 f4 e5 f5 e6 f6 e7 f7
        have g0 : VF.cell? ⟨b, 0, none⟩ = some (.int .i64 x.boots) := BF.out.cell 0
        have g1 : VF.cell? ⟨b, 1, none⟩ = some (.int .i64 x.mode) := BF.out.cell 1
        have g2 : VF.cell? ⟨b, 2, none⟩ = some (.int .i64 x.time) := BF.out.cell 2
        have g3 : VF.cell? ⟨b, 3, none⟩ = some (.slice A3 n3 c3) := BF.out.cell 3
        have g4 : VF.cell? ⟨b, 4, none⟩ = some (.slice none 0 0) := BF.out.cell 4
        have g5 : VF.cell? ⟨b, 5, none⟩ = some (.slice none 0 0) := BF.out.cell 5
        have g6 : VF.cell? ⟨b, 6, none⟩ = some (.slice Y n d) := BF.out.cell 6
        have g7 : VF.cell? ⟨b, 7, none⟩ = some (.int .i64 x.next) := BF.out.cell 7
        clear hVF hkf hbf HI
        go_wp2_with fail
        cases hok : ckOk x.ck with
        | false =>
          have HOK := Lib.hid hok
          clear hok
          refine (cenc_no _ x.ck ⟨A3, n3, c3, Y, n, d⟩ (by exact CI.out) HOK.out).mono ?_
          rintro e w9 ⟨rfl, hk9⟩
          have K9 := Lib.hid (KF.out.chain0 (Nat.le_refl _) hk9)
          clear hk9 g0 g1 g2 g3 g4 g5 g6 g7
          go_wp2_with fail
          go_ret2
          exact ⟨K9.out, .inl ⟨HOK.out, rfl⟩⟩
        | true =>
          have HOK := Lib.hid hok
          clear hok
          refine (cenc_yes _ x.ck ⟨A3, n3, c3, Y, n, d⟩ (by exact CI.out) HOK.out).mono ?_
          rintro e w9 ⟨A9, n9, c9, rfl, hn9, hs9, hk9, hA9⟩
          have K9 := Lib.hid (KF.out.chain0 (Nat.le_refl _) hk9)
          have N9 := Lib.hid hn9
          have S9 := Lib.hid hs9
          have HA9 := Lib.hid hA9
          clear hk9 hn9 hs9 hA9 g0 g1 g2 g3 g4 g5 g6 g7
          go_wp2_with fail
          go_ret2
          exact ⟨K9.out, .inr ⟨HOK.out, A9, n9, c9, rfl, N9.out, S9.out, fun y hy => Nat.le_trans KF.out.size (HA9.out y hy)⟩⟩
      · go_simp
        obtain ⟨V13, hV13⟩ : ∃ V, V = ((wr).alloc (.cells #[.int .i64 0, .int .i64 0, .int .i64 0, .slice none 0 0, .slice none 0 0, .slice none 0 0, .slice none 0 0, .int .i64 0] TC)).drew := ⟨_, rfl⟩
        obtain ⟨b, hb⟩ : ∃ b, b = (wr).heap.size := ⟨_, rfl⟩
        have ka : Keep (wr).heap.size [] (wr) V13 := by rw [hV13]; exact ((Keep.refl _ _ _).alloc (Nat.le_refl _) _).drew
        have K13 := Lib.hid (KW.out.chain0 (Nat.le_refl _) ka)
        have B13 := Lib.hid (BK.out.keepS ka (by simp))
        have Y13 := Lib.hid (PF.out.keep0 ka)
        have Z13 : Hid (Blk V13 b TC #[.int .i64 0, .int .i64 0, .int .i64 0, .slice none 0 0, .slice none 0 0, .slice none 0 0, .slice none 0 0, .int .i64 0]) := Lib.hid (by rw [hV13, hb]; exact (Blk.new _ _ _).drew)
        have L13 : Hid (Led V13 g (markAll x.marks)) := Lib.hid (by rw [hV13]; exact (LF.out.alloc _).drew)
        have hbw : Hid (w.heap.size ≤ b) := Lib.hid (by have h0 := KW.out.size; rw [hb]; exact h0)
        have hbA : Hid (b = wr.heap.size) := Lib.hid hb
        rw [← hV13, ← hb]
        clear hV13 hb ka
        refine hK.out _ _ (fun _ => (by exact ⟨B13.out.cell 0, B13.out.cell 1, B13.out.cell 2, B13.out.cell 4, B13.out.cell 5⟩)) (fun hHeld => ?_)
        clear hK K
        replace hHeld := hHeld (by kernel_rfl)
        (try simp only [Act.put, List.setIfInBounds_toArray, List.set_cons_zero, List.set_cons_succ])
        refine anyZ.ready (rs := [7]) (by kernel_rfl) (by simp) ?_
        refine (AllZ.cons (o := { dst := some 31, op := Op.call { callee := Callee.value (Operand.func 21), args := #[Operand.tmp 30], argTypes := #[23] }, type := 35, pos := _, after := #[{ on := 6, ground := Ground.data }], guard := none }) rfl (fun K hK => ?_) AllZ.nil)
        go_simp
        refine (image_any _ g (markAll x.marks) (by exact L13.out)).mono ?_
        rintro e V7 ⟨A3, n3, c3, rfl, hn3, hs3, hk3, hb3⟩
        have K7 := Lib.hid (K13.out.chain0 (Nat.le_refl _) hk3)
        have B7 := Lib.hid (B13.out.keepS hk3 (by simp))
        have Y7 := Lib.hid (Y13.out.keep0 hk3)
        have S7 := Lib.hid hs3
        have A7 : Hid (∀ y, y ∈ blks A3 → V13.heap.size ≤ y) := Lib.hid hb3
        have Z7 := Lib.hid (Z13.out.keepS hk3 (by simp))
        clear hn3 hs3 hk3 hb3
        refine hK.out _ _ (fun _ => (by exact ⟨B7.out.cell 0, B7.out.cell 1, B7.out.cell 2, B7.out.cell 4, B7.out.cell 5⟩)) (fun hHeld => ?_)
        clear hK K
        replace hHeld := hHeld (by kernel_rfl)
        (try simp only [Act.put, List.setIfInBounds_toArray, List.set_cons_zero, List.set_cons_succ])
        refine anyZ.take (i := 12) (oi := { dst := some 36, op := Op.build 64 #[(0, Operand.tmp 25), (1, Operand.tmp 27), (2, Operand.tmp 29), (3, Operand.tmp 31), (6, Operand.tmp 33), (7, Operand.tmp 35)], type := 64, pos := _, after := #[{ on := 1, ground := Ground.data }, { on := 3, ground := Ground.data }, { on := 5, ground := Ground.data }, { on := 7, ground := Ground.data }, { on := 9, ground := Ground.data }, { on := 11, ground := Ground.data }], guard := none }) (v := _) rfl (by kernel_rfl) (by kernel_rfl) (by kernel_rfl) (by kernel_rfl) (by kernel_rfl) (fun _ _ _ h => h) (Or.inl ⟨by rfl, by (intro wS hSw; (try dsimp only at hSw); go_simp; try with_reducible rfl)⟩) (by exact hHeld) ?_
        (try simp only [Act.put, List.setIfInBounds_toArray, List.set_cons_zero, List.set_cons_succ])
        refine anyZ.ready (rs := [14]) (by kernel_rfl) (by simp) ?_
        refine (AllZ.cons (o := { dst := none, op := Op.store 64 (Operand.tmp 6) (Operand.tmp 36), type := 0, pos := _, after := #[{ on := 13, ground := Ground.data }, { on := 12, ground := Ground.data }, { on := 7, ground := Ground.chain }, { on := 0, ground := Ground.phase }, { on := 1, ground := Ground.phase }, { on := 2, ground := Ground.phase }, { on := 3, ground := Ground.phase }, { on := 4, ground := Ground.phase }, { on := 5, ground := Ground.phase }, { on := 6, ground := Ground.phase }, { on := 7, ground := Ground.phase }, { on := 8, ground := Ground.phase }, { on := 9, ground := Ground.phase }, { on := 10, ground := Ground.phase }, { on := 11, ground := Ground.phase }, { on := 12, ground := Ground.phase }, { on := 13, ground := Ground.phase }], guard := none }) rfl (fun K hK => ?_) AllZ.nil)
        have f0 := Z7.out.frozen 0
        have e0 : V7.cell? ⟨b, 0, none⟩ = some (.int .i64 0) := Z7.out.cell 0
        have f1 := Z7.out.frozen 1
        have e1 : V7.cell? ⟨b, 1, none⟩ = some (.int .i64 0) := Z7.out.cell 1
        have f2 := Z7.out.frozen 2
        have e2 : V7.cell? ⟨b, 2, none⟩ = some (.int .i64 0) := Z7.out.cell 2
        have f3 := Z7.out.frozen 3
        have e3 : V7.cell? ⟨b, 3, none⟩ = some (.slice none 0 0) := Z7.out.cell 3
        have f4 := Z7.out.frozen 4
        have e4 : V7.cell? ⟨b, 4, none⟩ = some (.slice none 0 0) := Z7.out.cell 4
        have f5 := Z7.out.frozen 5
        have e5 : V7.cell? ⟨b, 5, none⟩ = some (.slice none 0 0) := Z7.out.cell 5
        have f6 := Z7.out.frozen 6
        have e6 : V7.cell? ⟨b, 6, none⟩ = some (.slice none 0 0) := Z7.out.cell 6
        have f7 := Z7.out.frozen 7
        have e7 : V7.cell? ⟨b, 7, none⟩ = some (.int .i64 0) := Z7.out.cell 7
        go_simp
        refine hK.out _ _ (fun h => absurd h (by decide)) (fun hHeld => ?_)
        clear hK K
        (try simp only [Act.put, List.setIfInBounds_toArray, List.set_cons_zero, List.set_cons_succ])
        refine anyZ.done (by kernel_rfl) ?_ _
        clear hHeld
        obtain ⟨VF, hVF⟩ : ∃ V, V = ((((((((V7.setCell ⟨b, 0, none⟩ (.int .i64 x.boots)).setCell ⟨b, 1, none⟩ (.int .i64 x.mode)).setCell ⟨b, 2, none⟩ (.int .i64 x.time)).setCell ⟨b, 3, none⟩ (.slice A3 n3 c3)).setCell ⟨b, 4, none⟩ (.slice none 0 0)).setCell ⟨b, 5, none⟩ (.slice none 0 0)).setCell ⟨b, 6, none⟩ (.slice Y n d)).setCell ⟨b, 7, none⟩ (.int .i64 x.next)) := ⟨_, rfl⟩
        have hkf : Keep V7.heap.size [b] V7 VF := by rw [hVF]; exact (Keep.set1 (Keep.set1 (Keep.set1 (Keep.set1 (Keep.set1 (Keep.set1 (Keep.set1 (Keep.set1 (Keep.refl _ _ _)))))))))
        have hbf : Blk VF b TC (ccs x.ck ⟨A3, n3, c3, Y, n, d⟩) := by rw [hVF]; exact ((((((((Z7.out.set_ 0 (.int .i64 x.boots)).set_ 1 (.int .i64 x.mode)).set_ 2 (.int .i64 x.time)).set_ 3 (.slice A3 n3 c3)).set_ 4 (.slice none 0 0)).set_ 5 (.slice none 0 0)).set_ 6 (.slice Y n d)).set_ 7 (.int .i64 x.next))
        rw [← hVF]
        have KF : Hid (Keep w.heap.size [] w VF) := Lib.hid (K7.out.chain1 (Nat.le_refl _) hkf hbw.out)
        have HI := markAll_inv x.marks
        have hA3b : ∀ y, y ∈ blks A3 → y ≠ b := fun y hy => by have h1 := A7.out y hy; have h2 := hbA.out; have h3 := Z13.out.lt; omega
        have hYb : 0 < n → ∀ y, y ∈ blks Y → y ≠ b := fun h0 y hy => by have h1 := PF.out.old h0 y hy; have h2 := hbA.out; omega
        have CI : Hid (CIn VF x.ck ⟨A3, n3, c3, Y, n, d⟩) := Lib.hid ⟨(S7.out.keepS hkf (fun y hy => by simpa using hA3b y hy)).vw (by omega), Y7.out.keepP hkf (fun h0 y hy => by simpa using hYb h0 y hy), S7.out.cap, P0.out.cd, HI.l16, HI.ok, HI.rt, (by show n ≤ 256; omega)⟩
        have BF := Lib.hid hbf
        clear e0 f0 e1 f1 e2 f2 e3 f3 e4 f4 e5 f5 e6 f6 e7 f7
        have g0 : VF.cell? ⟨b, 0, none⟩ = some (.int .i64 x.boots) := BF.out.cell 0
        have g1 : VF.cell? ⟨b, 1, none⟩ = some (.int .i64 x.mode) := BF.out.cell 1
        have g2 : VF.cell? ⟨b, 2, none⟩ = some (.int .i64 x.time) := BF.out.cell 2
        have g3 : VF.cell? ⟨b, 3, none⟩ = some (.slice A3 n3 c3) := BF.out.cell 3
        have g4 : VF.cell? ⟨b, 4, none⟩ = some (.slice none 0 0) := BF.out.cell 4
        have g5 : VF.cell? ⟨b, 5, none⟩ = some (.slice none 0 0) := BF.out.cell 5
        have g6 : VF.cell? ⟨b, 6, none⟩ = some (.slice Y n d) := BF.out.cell 6
        have g7 : VF.cell? ⟨b, 7, none⟩ = some (.int .i64 x.next) := BF.out.cell 7
        clear hVF hkf hbf HI
        go_wp2_with fail
        cases hok : ckOk x.ck with
        | false =>
          have HOK := Lib.hid hok
          clear hok
          refine (cenc_no _ x.ck ⟨A3, n3, c3, Y, n, d⟩ (by exact CI.out) HOK.out).mono ?_
          rintro e w9 ⟨rfl, hk9⟩
          have K9 := Lib.hid (KF.out.chain0 (Nat.le_refl _) hk9)
          clear hk9 g0 g1 g2 g3 g4 g5 g6 g7
          go_wp2_with fail
          go_ret2
          exact ⟨K9.out, .inl ⟨HOK.out, rfl⟩⟩
        | true =>
          have HOK := Lib.hid hok
          clear hok
          refine (cenc_yes _ x.ck ⟨A3, n3, c3, Y, n, d⟩ (by exact CI.out) HOK.out).mono ?_
          rintro e w9 ⟨A9, n9, c9, rfl, hn9, hs9, hk9, hA9⟩
          have K9 := Lib.hid (KF.out.chain0 (Nat.le_refl _) hk9)
          have N9 := Lib.hid hn9
          have S9 := Lib.hid hs9
          have HA9 := Lib.hid hA9
          clear hk9 hn9 hs9 hA9 g0 g1 g2 g3 g4 g5 g6 g7
          go_wp2_with fail
          go_ret2
          exact ⟨K9.out, .inr ⟨HOK.out, A9, n9, c9, rfl, N9.out, S9.out, fun y hy => Nat.le_trans KF.out.size (HA9.out y hy)⟩⟩
end Go.Proofs.Ytfkbcflgbjncdaa
