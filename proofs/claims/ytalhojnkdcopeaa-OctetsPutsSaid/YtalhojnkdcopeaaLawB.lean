/- The law package of the octets: light and put. -/
import Derived.Test.YtalhojnkdcopeaaLawA
import Derived.LaidEqlPtr
namespace Go.Proofs.Ytalhojnkdcopeaa
set_option linter.unusedVariables false
set_option linter.unusedSimpArgs false
open Go.RowKit
/-- a value to write, or a read -/
structure Vl where
  k : Int
  n : Int
  z : Int
  X : Option Addr
  m : Nat
  c : Nat
  B : List Int
def VlOk (w : World) (v : Vl) : Prop := (-9223372036854775808 ≤ v.k ∧ v.k ≤ 9223372036854775807) ∧ (-9223372036854775808 ≤ v.n ∧ v.n ≤ 9223372036854775807) ∧ (-9223372036854775808 ≤ v.z ∧ v.z ≤ 9223372036854775807) ∧
  Oct v.B ∧ Vw w v.X v.m 1 (octs v.B) ∧ v.m ≤ v.c ∧ v.c ≤ maxLen
theorem Vw.keepH {w w' : World} {X : Option Addr} {m size : Nat} {xs : List Value} {B : Nat} {S : List Nat} (h : Vw w X m size xs) (hB : w.heap.size ≤ B) (k : Keep B S w w') (hb : ∀ g, g ∈ S → w.heap.size ≤ g) : Vw w' X m size xs := by
  refine ⟨h.1, fun hm => ?_⟩
  obtain ⟨b, o, rfl, hlt, hc⟩ := h.2 hm
  exact ⟨b, o, rfl, Nat.lt_of_lt_of_le hlt k.size, fun j u hu => (k.cell (p := ⟨b, o + j, none⟩) (by simp only; omega) (fun hm => by have := hb _ hm; simp only at this; omega)).trans (hc j u hu)⟩
theorem VlOk.keep0 {w w' : World} {v : Vl} (h : VlOk w v) (k : Keep w.heap.size [] w w') : VlOk w' v :=
  ⟨h.1, h.2.1, h.2.2.1, h.2.2.2.1, h.2.2.2.2.1.keep0 k, h.2.2.2.2.2⟩
abbrev vagg (v : Vl) : Value := .agg #[.int .i64 v.k, .int .i64 v.n, .int .i64 v.z, .slice v.X v.m v.c]
abbrev vcells (v : Vl) : Array Value := #[.int .i64 v.k, .int .i64 v.n, .int .i64 v.z, .slice v.X v.m v.c]
def At4 (w : World) (b o : Nat) (v : Vl) : Prop :=
  w.cell? ⟨b, o, none⟩ = some (.int .i64 v.k) ∧ w.cell? ⟨b, o + 1, none⟩ = some (.int .i64 v.n) ∧ w.cell? ⟨b, o + 2, none⟩ = some (.int .i64 v.z) ∧ w.cell? ⟨b, o + 3, none⟩ = some (.slice v.X v.m v.c)
def AtB (w : World) (b : Nat) (v : Vl) : Prop :=
  w.cell? ⟨b, 0, none⟩ = some (.int .i64 v.k) ∧ w.cell? ⟨b, 1, none⟩ = some (.int .i64 v.n) ∧ w.cell? ⟨b, 2, none⟩ = some (.int .i64 v.z) ∧ w.cell? ⟨b, 3, none⟩ = some (.slice v.X v.m v.c)
/-- a slice of values reads as the list l -/
def Vals (w : World) (A : Option Addr) (n : Nat) (l : List Vl) : Prop :=
  n = l.length ∧ (∀ v ∈ l, VlOk w v) ∧ (0 < n → ∃ b o, A = some ⟨b, o, none⟩ ∧ b < w.heap.size ∧ ∀ i v, l[i]? = some v → At4 w b (o + i * 4) v)
theorem Vals.keep0 {w w' : World} {A : Option Addr} {n : Nat} {l : List Vl} (h : Vals w A n l) (k : Keep w.heap.size [] w w') : Vals w' A n l := by
  refine ⟨h.1, fun v hv => (h.2.1 v hv).keep0 k, fun hn => ?_⟩
  obtain ⟨b, o, hA, hb, hc⟩ := h.2.2 hn
  refine ⟨b, o, hA, Nat.lt_of_lt_of_le hb k.size, fun i v hi => ?_⟩
  obtain ⟨h1, h2, h3, h4⟩ := hc i v hi
  exact ⟨(k.cell (p := ⟨b, _, none⟩) hb (by simp)).trans h1, (k.cell (p := ⟨b, _, none⟩) hb (by simp)).trans h2, (k.cell (p := ⟨b, _, none⟩) hb (by simp)).trans h3, (k.cell (p := ⟨b, _, none⟩) hb (by simp)).trans h4⟩
def lightB (l : List Vl) : Bool := decide (l.length ≤ 40) && l.all (fun v => decide (v.m ≤ 200))
def LightPost (w : World) (b : Bool) (e : Ending) (w' : World) : Prop := e = .returned (.bool b) ∧ w = w'
set_option maxHeartbeats 1000000 in
theorem light_b (w : World) (A : Option Addr) (n c : Nat) (l : List Vl) (b : Bool) (hb : lightB l = b) (hv : Vals w A n l) (hnc : n ≤ c) (hcm : c ≤ maxLen) :
    Calls Try.prog 16 #[.slice A n c] w (LightPost w b) := by
  obtain ⟨hn, hok, hat⟩ := hv
  have hcm' : (c : Int) ≤ 9223372036854775807 := by unfold maxLen at hcm; omega
  have hnc' : (n : Int) ≤ (c : Int) := by omega
  have HN := Lib.hid hn
  have HOK := Lib.hid hok
  have HB := Lib.hid hb
  by_cases hlt : 40 < n
  · have hb0 : b = false := by rw [← hb]; unfold lightB; rw [decide_eq_false (by omega)]; rfl
    subst hb0
    have hl : (40 : Int) < (n : Int) := by omega
    clear hn hok hb hat hcm
    go_enter Try.func16, Try.ntmps16
    go_wp2_with fail
    go_ret
    exact ⟨rfl, rfl⟩
  · have hl : (n : Int) ≤ 40 := by omega
    have HAT := Lib.hid hat
    clear hn hok hb hat hcm
    go_enter Try.func16, Try.ntmps16
    go_wp2_with fail
    go_loop [3] (fun i => ∃ k : Nat, k ≤ n ∧ i = .int .i64 k ∧ (l.take k).all (fun v => decide (v.m ≤ 200)) = true) (fun i => n - (intOf i).toNat)
    case atStart => exact ⟨0, Nat.zero_le _, rfl, rfl⟩
    case round =>
      obtain ⟨k, hk, rfl, hall⟩ := hrel
      have HALL := Lib.hid hall
      clear hall
      by_cases hlt' : k < n
      · obtain ⟨bx, ox, rfl, hbx, hc⟩ := HAT.out (by omega)
        obtain ⟨v, hv⟩ : ∃ v, l[k]? = some v := ⟨l[k]'(by have := HN.out; omega), List.getElem?_eq_getElem _⟩
        have c3 := (hc k v hv).2.2.2
        have HV := Lib.hid hv
        have hkn : (k : Int) < (n : Int) := by omega
        have hmm := (HOK.out v (List.mem_of_getElem? hv)).2.2.2.2.2.1
        clear hc hv
        by_cases hm : 200 < v.m
        · have hm' : (200 : Int) < (v.m : Int) := by omega
          have hb0 : b = false := by
            rw [← HB.out]
            unfold lightB
            have : l.all (fun v => decide (v.m ≤ 200)) = false := List.all_eq_false.2 ⟨v, List.mem_of_getElem? HV.out, by simp; omega⟩
            rw [this, Bool.and_false]
          subst hb0
          go_wp2_with fail
          go_ret
          exact ⟨rfl, rfl⟩
        · have hm' : (v.m : Int) ≤ 200 := by omega
          go_wp2_with fail
          go_round
          case rel => exact ⟨k + 1, by omega, by go_num, by rw [List.take_add_one, HV.out, List.all_append, HALL.out]; simp; omega⟩
          case measure => simp [intOf]; omega
      · obtain rfl : k = n := by omega
        have hb0 : b = true := by
          rw [← HB.out]
          unfold lightB
          have h1 := HALL.out
          rw [List.take_of_length_le (by rw [← HN.out]; omega)] at h1
          rw [h1, decide_eq_true (by rw [← HN.out]; omega)]
          rfl
        subst hb0
        go_wp2_with fail
        go_ret
        exact ⟨rfl, rfl⟩
theorem lightB_yes {l : List Vl} (h : lightB l = true) : l.length ≤ 40 ∧ ∀ v ∈ l, v.m ≤ 200 := by
  unfold lightB at h
  rw [Bool.and_eq_true] at h
  refine ⟨of_decide_eq_true h.1, fun v hv => ?_⟩
  have := List.all_eq_true.1 h.2 v hv
  simpa using this

/-! ### put -/
theorem eql_w (g : Nat) (W : World) : (binOp .eql 29 (bptr g) (bptr g)).run Try.prog W = .ok (.bool true) W := by
  obtain ⟨j, hj⟩ : ∃ j, Try.prog.info? 57 = some j := Option.isSome_iff_exists.1 (by kernel_rfl)
  exact run_eql_ptr_same _ _ Try.underlying29 hj
def beZ (n z : Int) : List Int := if z < 1 ∨ 8 < z then [] else be n z.toNat
theorem beZ_len (n z : Int) : (beZ n z).length ≤ 8 := by
  unfold beZ; split
  · simp
  · rw [be_length]; omega
theorem be_oct (n : Int) : ∀ k, Oct (be n k)
  | 0 => oct_nil
  | k + 1 => by
    intro x hx
    rcases List.mem_cons.1 hx with rfl | hx
    · omega
    · exact be_oct n k x hx
theorem beZ_oct (n z : Int) : Oct (beZ n z) := by
  unfold beZ; split
  · exact oct_nil
  · exact be_oct _ _
theorem refuint_s (w : World) (n z : Int) (hn0 : 0 ≤ n) (hn1 : n < 18446744073709551616) :
    Calls Try.prog 20 #[.int .u64 n, .int .i64 z] w (NewOcts w (beZ n z)) := by
  unfold beZ
  by_cases h : z < 1 ∨ 8 < z
  · rw [if_pos h]
    refine (refuint_bad w n z h).mono ?_
    rintro e w' ⟨rfl, rfl⟩
    exact ⟨none, 0, 0, rfl, rfl, Sl.nil _ _ _, Keep.refl _ _ _, by simp [blks]⟩
  · rw [if_neg h]
    obtain ⟨sz, rfl⟩ := Int.eq_ofNat_of_zero_le (show 0 ≤ z by omega)
    exact refuint_any w n hn0 hn1 sz (by omega) (by omega)
set_option maxHeartbeats 1000000 in
theorem wuint_bad (w : World) (g : Nat) (u : Value) (n z : Int) (h : z < 1 ∨ 8 < z) (hb : Blk w g 57 #[.bool true, u]) :
    Calls Try.prog 31 #[bptr g, .int .u64 n, .int .i64 z] w fun e w' => e = .returned (bptr g) ∧ w = w' := by
  have HB := Lib.hid hb
  clear hb
  by_cases h1 : z < 1
  all_goals
    go_enter Try.func31, Try.ntmps31
    go_wp2_with fail
    refine (wok_any _ g _ HB.out).mono ?_
    rintro e w' ⟨rfl, rfl⟩
    go_wp2_with fail
    go_ret
    exact ⟨rfl, rfl⟩
theorem wuint_s (w : World) (g : Nat) (A : Option Addr) (L : List Int) (n z : Int) (hn0 : 0 ≤ n) (hn1 : n < 18446744073709551616) (hL : L.length + 8 ≤ 900000000) (hw : Wr w g A L) :
    Calls Try.prog 31 #[bptr g, .int .u64 n, .int .i64 z] w fun e w' =>
      e = .returned (bptr g) ∧ ∃ A', Wr w' g A' (L ++ beZ n z) ∧ Keep w.heap.size (g :: blks A) w w' ∧ ∀ x, x ∈ blks A' → x ∈ blks A ∨ w.heap.size ≤ x := by
  unfold beZ
  by_cases h : z < 1 ∨ 8 < z
  · rw [if_pos h, List.append_nil]
    obtain ⟨m, c, _, hb, _⟩ := id hw
    refine (wuint_bad w g _ n z h hb).mono ?_
    rintro e w' ⟨rfl, rfl⟩
    exact ⟨rfl, A, hw, Keep.refl _ _ _, fun x h => .inl h⟩
  · rw [if_neg h]
    obtain ⟨sz, rfl⟩ := Int.eq_ofNat_of_zero_le (show 0 ≤ z by omega)
    exact wuint_any w g A L n hn0 hn1 sz (by omega) (by omega) hL hw
/-- Blob of a slice that may be empty -/
theorem wblob_p (w : World) (g : Nat) (A : Option Addr) (L : List Int) (X : Option Addr) (m c : Nat) (B : List Int) (hm : m ≤ 100000000) (hL : L.length ≤ 100000000) (hw : Wr w g A L)
    (hv : Vw w X m 1 (octs B)) (hX : 0 < m → ∀ x, x ∈ blks X → x ∉ g :: blks A) :
    Calls Try.prog 24 #[bptr g, .slice X m c] w fun e w' =>
      e = .returned (bptr g) ∧ ∃ A', Wr w' g A' (L ++ (vn (zz m).toNat ++ B)) ∧ Keep w.heap.size (g :: blks A) w w' ∧ ∀ x, x ∈ blks A' → x ∈ blks A ∨ w.heap.size ≤ x := by
  rw [← List.append_assoc]
  exact wblob_q w g A L X m c B hm hL hw hv hX
/-- a value's encoding -/
def encV (v : Vl) : List Int := if v.k = 0 then beZ (IntKind.u64.wrap v.n) v.z else if v.k = 2 then vn (zz v.m).toNat ++ v.B else vn (zz v.n).toNat
def PutPost (w : World) (g : Nat) (A : Option Addr) (L E : List Int) (e : Ending) (w' : World) : Prop :=
  ∃ A' A2 n2 c2, e = .returned (.tuple #[.slice A2 n2 c2, .bool true]) ∧ n2 = E.length ∧ Wr w' g A' (L ++ E) ∧ Vw w' A2 n2 1 (octs E) ∧ Keep w.heap.size (g :: blks A) w w' ∧
    (∀ x, x ∈ blks A' → x ∈ blks A ∨ w.heap.size ≤ x) ∧ (∀ x, x ∈ blks A2 → w.heap.size ≤ x)
/-- what is known of the world on put's way -/
structure PW (w W : World) (g : Nat) (A : Option Addr) (L : List Int) (v : Vl) : Prop where
  keep : Keep w.heap.size [] w W
  wr : Wr W g A L
  box : Blk W w.heap.size 39 (vcells v)
theorem PW.cells {w W : World} {g : Nat} {A : Option Addr} {L : List Int} {v : Vl} (h : PW w W g A L v) : AtB W w.heap.size v :=
  ⟨h.box.cell 0, h.box.cell 1, h.box.cell 2, h.box.cell 3⟩
theorem put_end {w W1 W2 : World} {g : Nat} {A A' A2 : Option Addr} {L E : List Int} {v : Vl} {n2 c2 : Nat} (hg : g < w.heap.size) (hA : ∀ x, x ∈ blks A → x < w.heap.size)
    (h1 : PW w W1 g A L v) (hn : n2 = E.length) (hs : Sl W1 5 1 A2 n2 c2 (octs E)) (hb2 : ∀ x, x ∈ blks A2 → w.heap.size ≤ x) (hw : Wr W2 g A' (L ++ E)) (hk : Keep W1.heap.size (g :: blks A) W1 W2)
    (hb : ∀ x, x ∈ blks A' → x ∈ blks A ∨ W1.heap.size ≤ x) :
    PutPost w g A L E (.returned (.tuple #[.slice A2 n2 c2, .bool true])) W2 := by
  have hz := h1.keep.size
  refine ⟨A', A2, n2, c2, rfl, hn, hw, (hs.keepS hk (fun x hx hm => ?_)).vw (by omega), ?_, fun x hx => ?_, hb2⟩
  · have := hb2 x hx
    rcases List.mem_cons.1 hm with e | e
    · omega
    · have := hA x e; omega
  · exact (h1.keep.mono (Nat.le_refl _) (fun _ _ h => by cases h)).trans (hk.mono hz (fun _ _ h => h))
  · rcases hb x hx with h | h
    · exact .inl h
    · right; omega
theorem put_box {w : World} {g : Nat} {A : Option Addr} {L : List Int} (v : Vl) (hw : Wr w g A L) : PW w (w.alloc (.cells (vcells v) 39)) g A L v :=
  ⟨(Keep.refl _ _ w).alloc (Nat.le_refl _) _, hw.keepS (S := []) ((Keep.refl _ _ w).alloc (Nat.le_refl _) _) (by simp) (by simp), Blk.new _ _ _⟩
theorem PW.other {w W W' : World} {g : Nat} {A : Option Addr} {L : List Int} {v : Vl} (h : PW w W g A L v) (hk : Keep W.heap.size [] W W') : PW w W' g A L v :=
  ⟨h.keep.chain0 (Nat.le_refl _) hk, h.wr.keepS hk (by simp) (by simp), h.box.keepS hk (by simp)⟩
theorem PW.cellsK {w W W' : World} {g : Nat} {A : Option Addr} {L : List Int} {v : Vl} (h : PW w W g A L v) (hg : g < w.heap.size) (hA : ∀ x, x ∈ blks A → x < w.heap.size) (hk : Keep W.heap.size (g :: blks A) W W') : AtB W' w.heap.size v := by
  have hb := h.box.keepS hk (fun hm => by
    rcases List.mem_cons.1 hm with e | e
    · omega
    · have := hA _ e; omega)
  exact ⟨hb.cell 0, hb.cell 1, hb.cell 2, hb.cell 3⟩
set_option maxHeartbeats 2000000 in
theorem put_0 (w : World) (g : Nat) (A : Option Addr) (L : List Int) (v : Vl) (hk : v.k = 0) (hm : v.m ≤ 200) (hL : L.length ≤ 100000) (hok : VlOk w v) (hw : Wr w g A L) :
    Calls Try.prog 17 #[bptr g, vagg v] w (PutPost w g A L (beZ (IntKind.u64.wrap v.n) v.z)) := by
  have hg := hw.lt
  have hA := hw.blk
  have P0 := Lib.hid (put_box v hw)
  have HG := Lib.hid hg
  have HA := Lib.hid hA
  have hX : ∀ x, 0 < v.m → x ∈ blks v.X → x ∉ g :: blks A → True := fun _ _ _ _ => trivial
  obtain ⟨_, ⟨n0, n1⟩, _, hO, hvw, hmc, hcm⟩ := hok
  have HVW := Lib.hid hvw
  have hpe : ∀ W : World, (binOp .eql 29 (bptr g) (bptr g)).run Try.prog W = .ok (.bool true) W := eql_w g
  have e0 : (v.k == 0) = true := beq_iff_eq.2 hk
  obtain ⟨U, hU⟩ : ∃ U, IntKind.u64.wrap v.n = U := ⟨_, rfl⟩
  have hU0 : 0 ≤ U := by rw [← hU, IntKind.wrap_u64]; omega
  have hU1 : U < 18446744073709551616 := by rw [← hU, IntKind.wrap_u64]; omega
  rw [hU]
  obtain ⟨W0, hW0⟩ : ∃ W0, W0 = w.alloc (.cells (vcells v) 39) := ⟨_, rfl⟩
  have d0 := P0.out.cells
  rw [← hW0] at P0 d0
  have HW0 : Hid (w.alloc (.cells #[.int .i64 v.k, .int .i64 v.n, .int .i64 v.z, .slice v.X v.m v.c] 39) = W0) := hW0.symm
  have D0 := Lib.hid d0
  obtain ⟨a0, a1, a2, a3⟩ := d0
  clear hW0 hw hg hA hX hO hvw hmc hcm hk
  go_enter Try.func17, Try.ntmps17
  go_wp2_with fail
  rw [HW0.out]
  go_region_held3 (fun w' => w'.cell? ⟨w.heap.size, 0, none⟩ = some (.int .i64 v.k) ∧ w'.cell? ⟨w.heap.size, 1, none⟩ = some (.int .i64 v.n) ∧ w'.cell? ⟨w.heap.size, 2, none⟩ = some (.int .i64 v.z) ∧ w'.cell? ⟨w.heap.size, 3, none⟩ = some (.slice v.X v.m v.c))
    (first | exact D0.out | exact D1.out | exact D2.out)
    (first
      | (go_at_call 20
         refine (refuint_s _ U v.z hU0 hU1).mono ?_
         rintro e w1 ⟨A2, n2, c2, rfl, hn, hs, hk, hb⟩
         have hk' := hk.undrew
         have P1 := Lib.hid (P0.out.other hk')
         have D1 := Lib.hid P1.out.cells
         have HN := Lib.hid hn
         have HS := Lib.hid hs
         have HB : Hid (∀ x, x ∈ blks A2 → w.heap.size ≤ x) := fun x hx => Nat.le_trans P0.out.keep.size (hb x hx)
         clear hn hs hk hb hk')
      | (go_at_call 31
         refine (wuint_s _ g A L U v.z hU0 hU1 (by omega) (by exact P1.out.wr)).mono ?_
         rintro e w2 ⟨rfl, A3, hw, hk, hb⟩
         have D2 := Lib.hid (P1.out.cellsK HG.out HA.out hk)
         have HE := Lib.hid (put_end HG.out HA.out P1.out HN.out HS.out HB.out hw hk hb)
         clear hw hk hb))
  go_wp2_with fail
  go_ret2
  exact HE.out
set_option maxHeartbeats 2000000 in
theorem put_2 (w : World) (g : Nat) (A : Option Addr) (L : List Int) (v : Vl) (hk : v.k = 2) (hX2 : 0 < v.m → ∀ x, x ∈ blks v.X → x ∉ g :: blks A) (hm : v.m ≤ 200) (hL : L.length ≤ 100000) (hok : VlOk w v) (hw : Wr w g A L) :
    Calls Try.prog 17 #[bptr g, vagg v] w (PutPost w g A L (vn (zz v.m).toNat ++ v.B)) := by
  have hg := hw.lt
  have hA := hw.blk
  have P0 := Lib.hid (put_box v hw)
  have HG := Lib.hid hg
  have HA := Lib.hid hA
  have hX : ∀ x, 0 < v.m → x ∈ blks v.X → x ∉ g :: blks A → True := fun _ _ _ _ => trivial
  obtain ⟨_, ⟨n0, n1⟩, _, hO, hvw, hmc, hcm⟩ := hok
  have HVW := Lib.hid hvw
  have hpe : ∀ W : World, (binOp .eql 29 (bptr g) (bptr g)).run Try.prog W = .ok (.bool true) W := eql_w g
  have e0 : (v.k == 0) = false := beq_false_of_ne (by omega)
  have e2 : (v.k == 2) = true := beq_iff_eq.2 hk
  have HXX : Hid (0 < v.m → ∀ x, x ∈ blks v.X → x ∉ g :: blks A) := hX2
  clear hX2
  obtain ⟨W0, hW0⟩ : ∃ W0, W0 = w.alloc (.cells (vcells v) 39) := ⟨_, rfl⟩
  have d0 := P0.out.cells
  rw [← hW0] at P0 d0
  have HW0 : Hid (w.alloc (.cells #[.int .i64 v.k, .int .i64 v.n, .int .i64 v.z, .slice v.X v.m v.c] 39) = W0) := hW0.symm
  have D0 := Lib.hid d0
  obtain ⟨a0, a1, a2, a3⟩ := d0
  clear hW0 hw hg hA hX hO hvw hmc hcm hk
  go_enter Try.func17, Try.ntmps17
  go_wp2_with fail
  rw [HW0.out]
  go_region_held3 (fun w' => w'.cell? ⟨w.heap.size, 0, none⟩ = some (.int .i64 v.k) ∧ w'.cell? ⟨w.heap.size, 1, none⟩ = some (.int .i64 v.n) ∧ w'.cell? ⟨w.heap.size, 2, none⟩ = some (.int .i64 v.z) ∧ w'.cell? ⟨w.heap.size, 3, none⟩ = some (.slice v.X v.m v.c))
    (first | exact D0.out | exact D1.out | exact D2.out)
    (first
      | (go_at_call 32
         refine (refblob_any _ v.X v.m v.c v.B (by omega) (by exact (HVW.out.keep0 P0.out.keep).drew)).mono ?_
         rintro e w1 ⟨A2, n2, c2, rfl, hn, hs, hk, hb⟩
         have hk' := hk.undrew
         have P1 := Lib.hid (P0.out.other hk')
         have D1 := Lib.hid P1.out.cells
         have HN := Lib.hid hn
         have HS := Lib.hid hs
         have HB : Hid (∀ x, x ∈ blks A2 → w.heap.size ≤ x) := fun x hx => Nat.le_trans P0.out.keep.size (hb x hx)
         clear hn hs hk hb hk')
      | (go_at_call 24
         refine (wblob_p _ g A L v.X v.m v.c v.B (by omega) (by omega) (by exact P1.out.wr) (by exact (HVW.out.keep0 P1.out.keep)) HXX.out).mono ?_
         rintro e w2 ⟨rfl, A3, hw, hk, hb⟩
         have D2 := Lib.hid (P1.out.cellsK HG.out HA.out hk)
         have HE := Lib.hid (put_end HG.out HA.out P1.out HN.out HS.out HB.out hw hk hb)
         clear hw hk hb))
  go_wp2_with fail
  go_ret2
  exact HE.out
set_option maxHeartbeats 2000000 in
theorem put_1 (w : World) (g : Nat) (A : Option Addr) (L : List Int) (v : Vl) (hk0 : v.k ≠ 0) (hk2 : v.k ≠ 2) (hm : v.m ≤ 200) (hL : L.length ≤ 100000) (hok : VlOk w v) (hw : Wr w g A L) :
    Calls Try.prog 17 #[bptr g, vagg v] w (PutPost w g A L (vn (zz v.n).toNat)) := by
  have hg := hw.lt
  have hA := hw.blk
  have P0 := Lib.hid (put_box v hw)
  have HG := Lib.hid hg
  have HA := Lib.hid hA
  have hX : ∀ x, 0 < v.m → x ∈ blks v.X → x ∉ g :: blks A → True := fun _ _ _ _ => trivial
  obtain ⟨_, ⟨n0, n1⟩, _, hO, hvw, hmc, hcm⟩ := hok
  have HVW := Lib.hid hvw
  have hpe : ∀ W : World, (binOp .eql 29 (bptr g) (bptr g)).run Try.prog W = .ok (.bool true) W := eql_w g
  have e0 : (v.k == 0) = false := beq_false_of_ne hk0
  have e2 : (v.k == 2) = false := beq_false_of_ne hk2
  obtain ⟨W0, hW0⟩ : ∃ W0, W0 = w.alloc (.cells (vcells v) 39) := ⟨_, rfl⟩
  have d0 := P0.out.cells
  rw [← hW0] at P0 d0
  have HW0 : Hid (w.alloc (.cells #[.int .i64 v.k, .int .i64 v.n, .int .i64 v.z, .slice v.X v.m v.c] 39) = W0) := hW0.symm
  have D0 := Lib.hid d0
  obtain ⟨a0, a1, a2, a3⟩ := d0
  clear hW0 hw hg hA hX hO hvw hmc hcm hk0 hk2
  go_enter Try.func17, Try.ntmps17
  go_wp2_with fail
  rw [HW0.out]
  go_region_held3 (fun w' => w'.cell? ⟨w.heap.size, 0, none⟩ = some (.int .i64 v.k) ∧ w'.cell? ⟨w.heap.size, 1, none⟩ = some (.int .i64 v.n) ∧ w'.cell? ⟨w.heap.size, 2, none⟩ = some (.int .i64 v.z) ∧ w'.cell? ⟨w.heap.size, 3, none⟩ = some (.slice v.X v.m v.c))
    (first | exact D0.out | exact D1.out | exact D2.out)
    (first
      | (go_at_call 28
         refine (refint_any _ v.n n0 n1).mono ?_
         rintro e w1 ⟨A2, n2, c2, rfl, hn, hs, hk, hb⟩
         have hk' := hk.undrew
         have P1 := Lib.hid (P0.out.other hk')
         have D1 := Lib.hid P1.out.cells
         have HN := Lib.hid hn
         have HS := Lib.hid hs
         have HB : Hid (∀ x, x ∈ blks A2 → w.heap.size ≤ x) := fun x hx => Nat.le_trans P0.out.keep.size (hb x hx)
         clear hn hs hk hb hk')
      | (go_at_call 14
         refine (wint_any _ g A L v.n n0 n1 (by omega) (by exact P1.out.wr)).mono ?_
         rintro e w2 ⟨rfl, A3, hw, hk, hb⟩
         have D2 := Lib.hid (P1.out.cellsK HG.out HA.out hk)
         have HE := Lib.hid (put_end HG.out HA.out P1.out HN.out HS.out HB.out hw hk hb)
         clear hw hk hb))
  go_wp2_with fail
  go_ret2
  exact HE.out
theorem put_any (w : World) (g : Nat) (A : Option Addr) (L E : List Int) (v : Vl) (hE : encV v = E) (hX : 0 < v.m → ∀ x, x ∈ blks v.X → x ∉ g :: blks A) (hm : v.m ≤ 200) (hL : L.length ≤ 100000) (hok : VlOk w v) (hw : Wr w g A L) :
    Calls Try.prog 17 #[bptr g, vagg v] w (PutPost w g A L E) := by
  subst hE
  unfold encV
  by_cases h0 : v.k = 0
  · rw [if_pos h0]; exact put_0 w g A L v h0 hm hL hok hw
  · rw [if_neg h0]
    by_cases h2 : v.k = 2
    · rw [if_pos h2]; exact put_2 w g A L v h2 hX hm hL hok hw
    · rw [if_neg h2]; exact put_1 w g A L v h0 h2 hm hL hok hw
theorem encV_len {w : World} (v : Vl) (h : VlOk w v) (hm : v.m ≤ 200) : (encV v).length ≤ 210 := by
  obtain ⟨_, ⟨n0, n1⟩, _, _, hvw, _⟩ := h
  have hB : v.B.length = v.m := by simpa [octs] using hvw.1
  unfold encV
  split
  · have := beZ_len (IntKind.u64.wrap v.n) v.z; omega
  · split
    · have := vn_len10 (zz v.m).toNat (by have := zz_nonneg (v.m : Int) (by omega) (by omega); omega)
      simp; omega
    · have := vn_len10 (zz v.n).toNat (by have := zz_nonneg v.n n0 n1; omega)
      omega
theorem encV_oct {w : World} (v : Vl) (h : VlOk w v) : Oct (encV v) := by
  unfold encV
  split
  · exact beZ_oct _ _
  · split
    · intro x hx
      rcases List.mem_append.1 hx with hx | hx
      · exact vn_oct _ x hx
      · exact h.2.2.2.1 x hx
    · exact fun x hx => vn_oct _ x hx
end Go.Proofs.Ytalhojnkdcopeaa
