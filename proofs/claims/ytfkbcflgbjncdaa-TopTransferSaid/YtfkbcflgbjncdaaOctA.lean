/- The contracts of the writer of octets: NewWriter, ok, Uint, Bytes. -/
import Derived.Test.YtfkbcflgbjncdaaSl
import Derived.BigQuiet
import Derived.Deep.QuietTactic
import Derived.Deep.RegionHeld3
import Derived.StillTactics
import Derived.BigRegion
import Derived.Deep.RegionLaw
import Derived.Lib.Hide
namespace Go.Proofs.Ytfkbcflgbjncdaa
set_option linter.unusedVariables false
set_option linter.unusedSimpArgs false
open Go.RowKit
abbrev bptr (g : Nat) : Value := .pointer (some ⟨g, 0, none⟩)
abbrev octs (L : List Int) : List Value := L.map (Value.int .u8)
/-- a writer at block g that holds the octets L: its slice's address is A -/
def Wr (w : World) (g : Nat) (A : Option Addr) (L : List Int) : Prop :=
  ∃ n c, n = L.length ∧ Blk w g 166 #[.bool true, .slice A n c] ∧ Sl w 5 1 A n c (octs L)
theorem infoU8 : (Try.prog.info? 5).map (fun i => (i.zero, i.size, i.bytes)) = some (some (.int .u8 0), 1, 1) := by kernel_rfl

set_option maxHeartbeats 400000 in
theorem wok_any (w : World) (g : Nat) (u : Value) (hb : Blk w g 166 #[.bool true, u]) :
    Calls Try.prog 104 #[bptr g] w fun e w' => e = .returned (.bool true) ∧ w = w' := by
  have h0 : w.cell? ⟨g, 0, none⟩ = some (.bool true) := hb.cell 0
  clear hb
  go_enter Try.func104, Try.ntmps104
  go_wp2
  go_ret
  exact ⟨rfl, rfl⟩

set_option maxHeartbeats 400000 in
theorem wnew_any (w : World) :
    Calls Try.prog 49 #[] w fun e w' => ∃ g, e = .returned (bptr g) ∧ w.heap.size ≤ g ∧ Wr w' g none [] ∧ Keep w.heap.size [] w w' := by
  go_enter Try.func49, Try.ntmps49
  go_wp2
  go_ret
  exact ⟨_, rfl, Nat.le_refl _, ⟨0, 0, rfl, Blk.new _ _ _, Sl.nil _ _ _⟩, (Keep.refl _ _ _).alloc (Nat.le_refl _) _⟩

/-- the low k octets of n, the most significant one first -/
def be (n : Int) : Nat → List Int
  | 0 => []
  | k + 1 => n / 256 ^ k % 256 :: be n k

theorem run_shr (P : Program) (w : World) (k yk : IntKind) (x c : Int) (n : Nat) (hc : c = (n : Int)) (hn : n ≤ k.bits) : (Op.shift .shr k x yk c).run P w = .ok (.int k (x / 2 ^ n)) w := by
  subst hc
  have h1 : ¬ ((n : Int) < 0) := by omega
  have h2 : min (n : Int).toNat k.bits = n := by simp; omega
  simp only [Op.shift, h1, if_false, h2]
  rw [Int.fdiv_eq_ediv_of_nonneg _ (Int.le_of_lt (Int.pow_pos (by decide)))]
  rfl
theorem pow256 (k : Nat) : (2 : Int) ^ (8 * k) = 256 ^ k := by rw [Int.pow_mul]; rfl

theorem u8_wrap (x : Int) : IntKind.u8.wrap x = x % 256 := IntKind.wrap_u8' x
/-- one octet more: the writer behind the store -/
theorem wr_round {w wr w3 : World} {g m' c' c2 : Nat} {A A' A2 : Option Addr} {L' : List Int} {o : Obj} {v x : Int} (hx : v = x)
    (hm : m' = L'.length) (hb : Blk wr g 166 #[.bool true, .slice A' m' c']) (hs : Sl wr 5 1 A' m' c' (octs L')) (hk : Keep w.heap.size (g :: blks A) w wr) (hbl : ∀ x, x ∈ blks A' → x ∈ blks A ∨ w.heap.size ≤ x)
    (hs3 : Sl w3 5 1 A2 (m' + 1) c2 (octs L' ++ [.int .u8 v])) (hk3 : Keep (wr.alloc o).heap.size (blks A') (wr.alloc o) w3) (hb3 : ∀ g, g ∈ blks A2 → g ∈ blks A' ∨ g = (wr.alloc o).heap.size) :
    Wr (w3.setCell ⟨g, 1, none⟩ (.slice A2 (m' + 1) c2)) g A2 (L' ++ [x]) ∧ Keep w.heap.size (g :: blks A) w (w3.setCell ⟨g, 1, none⟩ (.slice A2 (m' + 1) c2)) ∧ (∀ x, x ∈ blks A2 → x ∈ blks A ∨ w.heap.size ≤ x) := by
  subst hx
  have hz := hk.size
  have hb4 : Blk w3 g 166 #[.bool true, .slice A' m' c'] := (hb.alloc o).keepS hk3 (hs.ne_blk hb (by decide))
  have hA2 : ∀ x, x ∈ blks A2 → x ∈ blks A ∨ w.heap.size ≤ x := fun x hx => by
    rcases hb3 x hx with h | h
    · exact hbl x h
    · right; simp at h; omega
  refine ⟨⟨m' + 1, c2, by simp [hm], hb4.set_ 1 _, ?_⟩, ?_, hA2⟩
  · refine Sl.far ?_ _ (hs3.ne_blk hb4 (by decide))
    simpa [octs] using hs3
  · refine Keep.setS ?_ (by simp)
    have h1 : Keep w.heap.size (g :: blks A) w (wr.alloc o) := hk.alloc hk.size o
    exact h1.trans (hk3.mono h1.size (fun x hx hm => by
      rcases hbl x hm with h | h
      · exact List.mem_cons_of_mem _ h
      · omega))

set_option maxHeartbeats 1000000 in
theorem wuint_any (w : World) (g : Nat) (A : Option Addr) (L : List Int) (n : Int) (hn0 : 0 ≤ n) (hn1 : n < 18446744073709551616) (sz : Nat) (h1 : 1 ≤ sz) (h8 : sz ≤ 8) (hL : L.length + 8 ≤ 900000000) (hw : Wr w g A L) :
    Calls Try.prog 50 #[bptr g, .int .u64 n, .int .i64 (sz : Int)] w fun e w' =>
      e = .returned (bptr g) ∧ ∃ A', Wr w' g A' (L ++ be n sz) ∧ Keep w.heap.size (g :: blks A) w w' ∧ ∀ x, x ∈ blks A' → x ∈ blks A ∨ w.heap.size ≤ x := by
  obtain ⟨m, c, hm, hb, hs⟩ := hw
  have HM := Lib.hid hm
  have HB := Lib.hid hb
  have HS := Lib.hid hs
  have hm' : m + 8 ≤ 900000000 := by omega
  clear hm hb hs hL
  go_enter Try.func50, Try.ntmps50
  go_wp2_with fail
  refine (wok_any _ g _ HB.out).mono ?_
  rintro e w' ⟨rfl, rfl⟩
  go_wp2_with fail
  obtain ⟨i0, hi0, hz0, hz1, hz2⟩ := info_parts infoU8
  go_loopw [7] (fun i wr => ∃ j : Nat, j ≤ sz ∧ i = .int .i64 ((j : Int) - 1) ∧ ∃ A' L', Wr wr g A' L' ∧ L' ++ be n j = L ++ be n sz ∧ L'.length + j = m + sz ∧ Keep w.heap.size (g :: blks A) w wr ∧ (∀ x, x ∈ blks A' → x ∈ blks A ∨ w.heap.size ≤ x)) (fun i _ => (intOf i + 1).toNat)
  case atStart => exact ⟨sz, Nat.le_refl _, rfl, A, L, ⟨m, c, HM.out, HB.out, HS.out⟩, rfl, by rw [HM.out], Keep.refl _ _ _, fun x hx => .inl hx⟩
  case round =>
    obtain ⟨j, hj, rfl, A', L', hwr, hL', hlen, hk, hbl⟩ := hrel
    cases j with
    | zero =>
      have HW := Lib.hid hwr
      have HK := Lib.hid hk
      have HBL := Lib.hid hbl
      have HL := Lib.hid hL'
      clear hwr hk hbl hL'
      go_wp2_with fail
      go_ret
      refine ⟨rfl, A', ?_, HK.out, HBL.out⟩
      have e := HL.out
      simp only [be, List.append_nil] at e
      rw [← e]
      exact HW.out
    | succ k =>
      obtain ⟨m', c', hm', hb', hs'⟩ := hwr
      have hmm : m' + 1 ≤ 1000000000 := by omega
      have HM' := Lib.hid hm'
      have HB' := Lib.hid hb'
      have HS' := Lib.hid hs'
      have HK := Lib.hid hk
      have HBL := Lib.hid hbl
      have HL := Lib.hid hL'
      have d1 : wr.cell? ⟨g, 1, none⟩ = some (.slice A' m' c') := hb'.cell 1
      have f1 := hb'.frozen 1
      have hk8 : k < 8 := by omega
      clear hm' hb' hs' hk hbl hL'
      have hsh : ∀ W : World, (Op.shift .shr .u64 n .i64 (IntKind.i64.wrap (8 * (k : Int)))).run Try.prog W = .ok (.int .u64 (n / 256 ^ k)) W := fun W => by
        rw [run_shr Try.prog W .u64 .i64 n _ (8 * k) (by rw [IntWalk.i64_in _ (by omega)]; omega) (by simp [IntKind.bits]; omega), pow256]
      have e : (((k + 1 : Nat) : Int) - 1) = (k : Int) := by omega
      rw [e]
      clear e
      go_wp2_with fail
      have d2 : ∀ o : Obj, (wr.alloc o).cell? ⟨g, 1, none⟩ = some (.slice A' m' c') := fun o => (HB'.out.alloc o).cell 1
      go_region_law (first
        | (refine step_app1 _ rfl (.tmp 28) (.tmp 34) 35 rfl 5 i0 _ 1 1 Try.underlying35 hi0 hz0 hz1 hz2 rfl (by omega) A' m' c' (octs L') rfl (by exact HS'.out.alloc _) _ _ _ rfl (by exact Blk.new _ _ _) rfl rfl (by omega) (by omega) ?_
           intro A2 c2 w3 hs3 hk3 hb3
           have HS3 := Lib.hid hs3
           have HK3 := Lib.hid hk3.undrew
           have HB3 := Lib.hid hb3
           have hb4 := (HB'.out.alloc _).keepS hk3.undrew (HS'.out.ne_blk HB'.out (by decide))
           have f4 := hb4.frozen 1
           have d4 : w3.cell? ⟨g, 1, none⟩ = some (.slice A' m' c') := hb4.cell 1
           have HB4 := Lib.hid hb4
           clear hs3 hk3 hb3 hb4))
      all_goals
        have HR := Lib.hid (wr_round (u8_wrap (n / 256 ^ k)) HM'.out HB'.out HS'.out HK.out HBL.out HS3.out HK3.out HB3.out)
        clear HB4 f4 d4
        go_wp2_with fail
        go_roundw
        case rel =>
          refine ⟨k, by omega, rfl, A2, _, HR.out.1, ?_, by simp; omega, HR.out.2.1, HR.out.2.2⟩
          rw [← HL.out]
          simp [be]
        case measure => simp [intOf] <;> omega

/-! ### Bytes -/
theorem oct_one (L : List Int) : ∀ u ∈ octs L, u.oneCell' = true := by
  intro u hu
  obtain ⟨x, _, rfl⟩ := List.mem_map.1 hu
  rfl
set_option maxHeartbeats 1000000 in
theorem wbytes_any (w : World) (g : Nat) (A : Option Addr) (L : List Int) (hw : Wr w g A L) (hL : L.length ≤ 900000000) :
    Calls Try.prog 51 #[bptr g] w fun e w' =>
      ∃ A' n c, e = .returned (.slice A' n c) ∧ n = L.length ∧ Sl w' 5 1 A' n c (octs L) ∧ Keep w.heap.size [] w w' ∧ ∀ x, x ∈ blks A' → w.heap.size ≤ x := by
  obtain ⟨m, c, hm, hb, hs⟩ := hw
  have d1 : w.cell? ⟨g, 1, none⟩ = some (.slice A m c) := hb.cell 1
  have d2 : ∀ o : Obj, (w.alloc o).cell? ⟨g, 1, none⟩ = some (.slice A m c) := fun o => (hb.alloc o).cell 1
  have HM := Lib.hid hm
  have HB := Lib.hid hb
  have HS := Lib.hid hs
  have hm' : m ≤ 900000000 := by omega
  clear hm hb hs hL
  obtain ⟨i0, hi0, hz0, hz1, hz2⟩ := info_parts infoU8
  go_enter Try.func51, Try.ntmps51
  go_wp2_with fail
  refine (wok_any _ g _ HB.out).mono ?_
  rintro e w' ⟨rfl, rfl⟩
  go_wp2_with (at_builtin
               refine wpList_appV _ rfl (.tmp 6) (.tmp 10) 35 rfl 5 i0 _ 1 1 Try.underlying35 hi0 hz0 hz1 hz2 rfl (by omega) (some ⟨w.heap.size, 0, none⟩) 0 0 [] rfl (World.ownsRow_made w #[] 0 (Nat.zero_le _) (by unfold maxLen; omega) rfl) A m c (octs L) rfl ((HS.out.vw (by omega)).alloc _) (oct_one L) (by omega) (by omega) ?_
               intro A2 c2 w3 hs3 hk3 hb3
               have HS3 := Lib.hid hs3
               have HK3 := Lib.hid hk3
               have HB3 := Lib.hid hb3
               clear hs3 hk3 hb3)
  go_ret
  refine ⟨A2, m, c2, rfl, HM.out, by simpa using HS3.out, ?_, fun x hx => ?_⟩
  · exact (((Keep.refl _ _ w).alloc (Nat.le_refl _) _).chain (Nat.le_refl _) HK3.out (fun x hx => by simp [blks] at hx; omega))
  · rcases HB3.out x hx with h | h
    · simp [blks] at h; omega
    · simp at h; omega
end Go.Proofs.Ytfkbcflgbjncdaa
