/- The contracts of the reader of octets: NewReader, ok, fail, Uint. -/
import Derived.Test.YtfkbcflgbjncdaaOctA
namespace Go.Proofs.Ytfkbcflgbjncdaa
set_option linter.unusedVariables false
set_option linter.unusedSimpArgs false
open Go.RowKit
def Oct (L : List Int) : Prop := ∀ x ∈ L, 0 ≤ x ∧ x ≤ 255
/-- an address of a slice: nil, or a cell of a block -/
def Xf (X : Option Addr) : Prop := X = none ∨ ∃ b o, X = some ⟨b, o, none⟩
/-- a reader at block g with the octets L left: its slice's address is X -/
def Rd (w : World) (g : Nat) (X : Option Addr) (L : List Int) : Prop :=
  ∃ m c, m = L.length ∧ m ≤ c ∧ c ≤ maxLen ∧ Blk w g 168 #[.bool true, .bool false, .slice X m c] ∧ Vw w X m 1 (octs L) ∧ g ∉ blks X ∧ Xf X
/-- a reader that has failed -/
def Rf (w : World) (g : Nat) : Prop := Blk w g 168 #[.bool true, .bool true, .slice none 0 0]

theorem Sl.cap {w : World} {e : TypeId} {size n c : Nat} {A : Option Addr} {xs : List Value} (h : Sl w e size A n c xs) : n ≤ c ∧ c ≤ maxLen := by
  rcases h.form with ⟨_, rfl, rfl⟩ | ⟨g, _, _, h1, h2⟩
  · exact ⟨Nat.le_refl _, Nat.zero_le _⟩
  · exact ⟨h1, h2⟩

theorem Sl.xf {w : World} {e : TypeId} {size n c : Nat} {A : Option Addr} {xs : List Value} (h : Sl w e size A n c xs) : Xf A := by
  rcases h.form with ⟨rfl, _⟩ | ⟨g, rfl, _⟩
  · exact .inl rfl
  · exact .inr ⟨_, _, rfl⟩
theorem Rd.far {w : World} {g : Nat} {X : Option Addr} {L : List Int} (h : Rd w g X L) {p : Addr} (hp : g ≠ p.block) (hx : p.block ∉ blks X) (u : Value) : Rd (w.setCell p u) g X L := by
  obtain ⟨m, c, h1, h2, h3, h4, h5, h6⟩ := h
  exact ⟨m, c, h1, h2, h3, h4.far hp u, h5.far u hx, h6⟩
theorem Rd.keepS {w w' : World} {g : Nat} {X : Option Addr} {L : List Int} {S : List Nat} (h : Rd w g X L) (k : Keep w.heap.size S w w') (hg : g ∉ S) (hx : ∀ x, x ∈ blks X → x ∉ S) : Rd w' g X L := by
  obtain ⟨m, c, h1, h2, h3, h4, h5, h6⟩ := h
  exact ⟨m, c, h1, h2, h3, h4.keepS k hg, h5.keepS k hx, h6⟩
theorem Rd.alloc {w : World} {g : Nat} {X : Option Addr} {L : List Int} (h : Rd w g X L) (o : Obj) : Rd (w.alloc o) g X L :=
  h.keepS (S := []) ((Keep.refl _ _ _).alloc (Nat.le_refl _) o) (by simp) (by simp)

set_option maxHeartbeats 1000000 in
theorem rnew_all (w : World) (X : Option Addr) (m c : Nat) (L : List Int) (hm : m ≤ 140737488355328) (hv : Vw w X m 1 (octs L)) :
    Calls Try.prog 52 #[.slice X m c] w fun e w' =>
      ∃ g A', e = .returned (bptr g) ∧ Rd w' g A' L ∧ Keep w.heap.size [] w w' ∧ w.heap.size ≤ g ∧ (∀ x, x ∈ blks A' → w.heap.size ≤ x) ∧ (∀ x, x ∈ blks A' → x < w'.heap.size) := by
  have HV := Lib.hid hv
  clear hv
  obtain ⟨i0, hi0, hz0, hz1, hz2⟩ := info_parts infoU8
  go_enter Try.func52, Try.ntmps52
  go_wp2_with (at_builtin
               refine wpList_appV _ rfl (.tmp 3) (.tmp 4) 35 rfl 5 i0 _ 1 1 Try.underlying35 hi0 hz0 hz1 hz2 rfl (by omega) (some ⟨w.heap.size, 0, none⟩) 0 0 [] rfl (World.ownsRow_made w #[] 0 (Nat.zero_le _) (by unfold maxLen; omega) rfl) X m c (octs L) rfl (HV.out.alloc _) (oct_one L) (by omega) (by omega) ?_
               intro A2 c2 w3 hs3 hk3 hb3
               have HS3 := Lib.hid hs3
               have HK3 := Lib.hid hk3
               have HB3 := Lib.hid hb3
               clear hs3 hk3 hb3)
  go_ret
  have hk : Keep w.heap.size [] w w3 := ((Keep.refl _ _ w).alloc (Nat.le_refl _) _).chain (Nat.le_refl _) HK3.out (fun x hx => by simp [blks] at hx; omega)
  have hs : Sl w3 5 1 A2 m c2 (octs L) := by simpa using HS3.out
  refine ⟨_, A2, rfl, ⟨m, c2, by simpa [octs] using HV.out.1.symm, hs.cap.1, hs.cap.2, Blk.new _ _ _, (hs.vw (by omega)).alloc _, fun hx => by have := hs.blk hx; omega, hs.xf⟩, hk.alloc hk.size _, hk.size, fun x hx => ?_, fun x hx => by have := hs.blk hx; simp; omega⟩
  rcases HB3.out x hx with h | h
  · simp [blks] at h; omega
  · simp at h; omega

theorem rnew_any (w : World) (X : Option Addr) (m c : Nat) (L : List Int) (hm : m ≤ 140737488355328) (hv : Vw w X m 1 (octs L)) :
    Calls Try.prog 52 #[.slice X m c] w fun e w' =>
      ∃ g A', e = .returned (bptr g) ∧ Rd w' g A' L ∧ Keep w.heap.size [] w w' ∧ w.heap.size ≤ g ∧ (∀ x, x ∈ blks A' → w.heap.size ≤ x) := by
  refine (rnew_all w X m c L hm hv).mono ?_
  rintro e w' ⟨g, A', h1, h2, h3, h4, h5, _⟩
  exact ⟨g, A', h1, h2, h3, h4, h5⟩

set_option maxHeartbeats 400000 in
theorem rok_any (w : World) (g : Nat) (u : Value) (b : Bool) (hb : Blk w g 168 #[.bool true, .bool b, u]) :
    Calls Try.prog 105 #[bptr g] w fun e w' => e = .returned (.bool (!b)) ∧ w = w' := by
  have h0 : w.cell? ⟨g, 0, none⟩ = some (.bool true) := hb.cell 0
  have h1 : w.cell? ⟨g, 1, none⟩ = some (.bool b) := hb.cell 1
  clear hb
  cases b
  all_goals
    go_enter Try.func105, Try.ntmps105
    go_wp2
    go_ret
    exact ⟨rfl, rfl⟩

set_option maxHeartbeats 400000 in
theorem rfail_any (w : World) (g : Nat) (b : Bool) (X : Option Addr) (m c : Nat) (hb : Blk w g 168 #[.bool true, .bool b, .slice X m c]) :
    Calls Try.prog 106 #[bptr g] w fun e w' => e = .returned (.tuple #[]) ∧ Rf w' g ∧ Keep w.heap.size [g] w w' := by
  have h1 : w.cell? ⟨g, 1, none⟩ = some (.bool b) := hb.cell 1
  have h2 : w.cell? ⟨g, 2, none⟩ = some (.slice X m c) := hb.cell 2
  have f1 := hb.frozen 1
  have f2 := hb.frozen 2
  have HB := Lib.hid hb
  clear hb
  go_enter Try.func106, Try.ntmps106
  go_wp2
  go_end0
  exact ⟨rfl, (HB.out.set_ 1 _).set_ 2 _, by repeat (first | exact Keep.refl _ _ _ | apply Keep.set1)⟩

/-- the number that octets stand for -/
def beVal (L : List Int) : Int := L.foldl (fun n x => n * 256 + x) 0
theorem beVal_snoc (L : List Int) (x : Int) : beVal (L ++ [x]) = beVal L * 256 + x := by simp [beVal]
theorem beVal_bd : ∀ (k : Nat) (L : List Int), Oct L → L.length = k → 0 ≤ beVal L ∧ beVal L < 256 ^ k
  | 0, L, _, h => by
    obtain rfl := List.eq_nil_of_length_eq_zero h
    simp [beVal]
  | k + 1, L, ho, h => by
    have hne : L ≠ [] := by intro e; subst e; simp at h
    obtain ⟨M, x, rfl⟩ : ∃ M x, L = M ++ [x] := ⟨L.dropLast, L.getLast hne, (List.dropLast_concat_getLast hne).symm⟩
    have hM := beVal_bd k M (fun y hy => ho y (by simp [hy])) (by simpa using h)
    have hx := ho x (by simp)
    rw [beVal_snoc, Int.pow_succ]
    omega

theorem or_low (v x : Int) (h0 : 0 ≤ v) (h1 : v < 72057594037927936) (x0 : 0 ≤ x) (x1 : x ≤ 255) : bits .or .u64 (v * 256) x = v * 256 + x := by
  obtain ⟨a, rfl⟩ := Int.eq_ofNat_of_zero_le h0
  obtain ⟨b, rfl⟩ := Int.eq_ofNat_of_zero_le x0
  have e : ((a : Int) * 256) = ((a * 256 : Nat) : Int) := by omega
  rw [e, u64_or_nat (a * 256) b (by omega) (by omega)]
  have h := Nat.two_pow_add_eq_or_of_lt (i := 8) (b := b) (by omega) a
  have e2 : a * 256 = 2 ^ 8 * a := by omega
  rw [e2, ← h]
  omega

set_option maxHeartbeats 1000000 in
theorem ruint_no (w : World) (g : Nat) (X : Option Addr) (L : List Int) (sz : Nat) (h1 : 1 ≤ sz) (h8 : sz ≤ 8) (hlt : L.length < sz) (hr : Rd w g X L) :
    Calls Try.prog 53 #[bptr g, .int .i64 (sz : Int)] w fun e w' => e = .returned (.int .u64 0) ∧ Rf w' g ∧ Keep w.heap.size [g] w w' := by
  obtain ⟨m, c, hm, hmc, hcm, hb, hv, hgx⟩ := hr
  have d2 : w.cell? ⟨g, 2, none⟩ = some (.slice X m c) := hb.cell 2
  have hms : (m : Int) < (sz : Int) := by omega
  have HB := Lib.hid hb
  clear hm hb hv hlt hgx
  go_enter Try.func53, Try.ntmps53
  go_wp2_with fail
  refine (rok_any _ g _ false HB.out).mono ?_
  rintro e w' ⟨rfl, rfl⟩
  go_wp2_with fail
  refine (rfail_any _ g false X m c HB.out).mono ?_
  rintro e w1 ⟨rfl, hf, hk⟩
  have HF := Lib.hid hf
  have HK := Lib.hid hk
  clear hf hk
  go_wp2_with fail
  go_ret
  exact ⟨rfl, HF.out, HK.out⟩

set_option maxHeartbeats 1000000 in
theorem ruint_bad (w : World) (g : Nat) (X : Option Addr) (L : List Int) (z : Int) (h : z < 1 ∨ 8 < z) (hr : Rd w g X L) :
    Calls Try.prog 53 #[bptr g, .int .i64 z] w fun e w' => e = .returned (.int .u64 0) ∧ Rf w' g ∧ Keep w.heap.size [g] w w' := by
  obtain ⟨m, c, hm, hmc, hcm, hb, hv, hgx⟩ := hr
  have d2 : w.cell? ⟨g, 2, none⟩ = some (.slice X m c) := hb.cell 2
  have HB := Lib.hid hb
  clear hm hb hv hgx
  by_cases h1 : z < 1
  all_goals
    go_enter Try.func53, Try.ntmps53
    go_wp2_with fail
    refine (rok_any _ g _ false HB.out).mono ?_
    rintro e w' ⟨rfl, rfl⟩
    go_wp2_with fail
    refine (rfail_any _ g false X m c HB.out).mono ?_
    rintro e w1 ⟨rfl, hf, hk⟩
    have HF := Lib.hid hf
    have HK := Lib.hid hk
    clear hf hk
    go_wp2_with fail
    go_ret
    exact ⟨rfl, HF.out, HK.out⟩

set_option maxHeartbeats 1000000 in
theorem ruint_failed (w : World) (g : Nat) (sz : Int) (hr : Rf w g) :
    Calls Try.prog 53 #[bptr g, .int .i64 sz] w fun e w' => e = .returned (.int .u64 0) ∧ w = w' := by
  have HB : Hid (Blk w g 168 #[.bool true, .bool true, .slice none 0 0]) := hr
  clear hr
  go_enter Try.func53, Try.ntmps53
  go_wp2_with fail
  refine (rok_any _ g _ true HB.out).mono ?_
  rintro e w' ⟨rfl, rfl⟩
  go_wp2_with fail
  go_ret
  exact ⟨rfl, rfl⟩

set_option maxHeartbeats 1000000 in
theorem ruint_yes (w : World) (g : Nat) (X : Option Addr) (L : List Int) (hO : Oct L) (sz : Nat) (h1 : 1 ≤ sz) (h8 : sz ≤ 8) (hle : sz ≤ L.length) (hr : Rd w g X L) :
    Calls Try.prog 53 #[bptr g, .int .i64 (sz : Int)] w fun e w' =>
      e = .returned (.int .u64 (beVal (L.take sz))) ∧ ∃ X', Rd w' g X' (L.drop sz) ∧ Keep w.heap.size [g] w w' ∧ blks X' = blks X := by
  obtain ⟨m, c, hm, hmc, hcm, hb, hv, hgx, _⟩ := hr
  have d2 : w.cell? ⟨g, 2, none⟩ = some (.slice X m c) := hb.cell 2
  have f2 := hb.frozen 2
  have hms : (sz : Int) ≤ (m : Int) := by omega
  have hsc : (sz : Int) ≤ (c : Int) := by omega
  have hmc' : (m : Int) ≤ (c : Int) := by omega
  have hcm' : (c : Int) ≤ 9223372036854775807 := by unfold maxLen at hcm; omega
  obtain ⟨bx, ox, rfl, hbx, hcells⟩ := hv.2 (by omega)
  have HM := Lib.hid hm
  have HB := Lib.hid hb
  have HV := Lib.hid hv
  have HO := Lib.hid hO
  have HC := Lib.hid hcells
  have HGX := Lib.hid hgx
  clear hm hb hv hO hcells hgx
  go_enter Try.func53, Try.ntmps53
  go_wp2_with fail
  refine (rok_any _ g _ false HB.out).mono ?_
  rintro e w' ⟨rfl, rfl⟩
  go_wp2_with fail
  go_loop [5, 35] (fun n i => ∃ k : Nat, k ≤ sz ∧ i = .int .i64 k ∧ n = .int .u64 (beVal (L.take k))) (fun _ i => sz - (intOf i).toNat)
  case atStart => exact ⟨0, Nat.zero_le _, rfl, rfl⟩
  case round =>
    obtain ⟨k, hk, rfl, rfl⟩ := hrel
    by_cases hlt : k < sz
    · obtain ⟨x, hx⟩ : ∃ x, L[k]? = some x := ⟨L[k]'(by have := HM.out; omega), List.getElem?_eq_getElem _⟩
      have c0 : w.cell? ⟨bx, ox + k, none⟩ = some (.int .u8 x) := HC.out k _ (by rw [List.getElem?_map, hx]; rfl)
      have hxo := HO.out x (List.mem_of_getElem? hx)
      obtain ⟨x0, x1⟩ := hxo
      have hT : Hid (L.take (k + 1) = L.take k ++ [x]) := by
        unfold Hid; rw [List.take_add_one, hx]; rfl
      have hbd := beVal_bd k (L.take k) (fun y hy => HO.out y (List.mem_of_mem_take hy)) (by simp; have := HM.out; omega)
      have hp : (256 : Int) ^ k ≤ 72057594037927936 := by
        have h7 : k = 0 ∨ k = 1 ∨ k = 2 ∨ k = 3 ∨ k = 4 ∨ k = 5 ∨ k = 6 ∨ k = 7 := by omega
        rcases h7 with rfl | rfl | rfl | rfl | rfl | rfl | rfl | rfl <;> decide
      obtain ⟨v, hv⟩ : ∃ v, beVal (L.take k) = v := ⟨_, rfl⟩
      rw [hv] at hbd
      have v0 : 0 ≤ v := hbd.1
      have v1 : v < 72057594037927936 := by omega
      have HVV := Lib.hid hv
      rw [hv]
      clear hx hbd hp hv
      have hor := or_low v x v0 v1 x0 x1
      go_wp2_with fail
      go_round
      case rel => exact ⟨k + 1, by omega, by go_num, by rw [hT.out, beVal_snoc, HVV.out]⟩
      case measure => simp [intOf]; omega
    · obtain rfl : k = sz := by omega
      obtain ⟨v, hv⟩ : ∃ v, beVal (L.take k) = v := ⟨_, rfl⟩
      rw [hv]
      have HVV := Lib.hid hv
      clear hv
      by_cases hc : c = k
      · subst hc
        go_wp2_with fail
        go_ret
        refine ⟨by rw [HVV.out]; rfl, some ⟨bx, ox, none⟩, ?_, (Keep.refl _ _ _).set1, rfl⟩
        have hd : L.drop c = [] := by apply List.drop_eq_nil_of_le; have := HM.out; omega
        refine ⟨_, _, ?_, ?_, ?_, HB.out.set_ 2 _, ?_, HGX.out, .inr ⟨_, _, rfl⟩⟩
        · have := HM.out; simp; omega
        · omega
        · unfold maxLen; omega
        · rw [hd]; exact Vw.zero _ _ _
      · go_wp2_with fail
        go_ret
        refine ⟨by rw [HVV.out]; rfl, some ⟨bx, ox + k, none⟩, ?_, (Keep.refl _ _ _).set1, rfl⟩
        refine ⟨_, _, ?_, ?_, ?_, HB.out.set_ 2 _, ?_, HGX.out, .inr ⟨_, _, rfl⟩⟩
        · simp [HM.out]
        · omega
        · unfold maxLen; omega
        · have h := (HV.out.drop (k := k) (by omega)).far (p := ⟨g, 2, none⟩) (.slice (some ⟨bx, ox + k, none⟩) (m - k) (c - k)) HGX.out
          simpa [octs] using h
end Go.Proofs.Ytfkbcflgbjncdaa
