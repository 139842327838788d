/- The formats: all, index, Valid, Size, most, check. -/
import Derived.Test.YtnneanbboooneaaCPlain
namespace Go.Proofs.Ytnneanbboooneaa
set_option linter.unusedVariables false
set_option linter.unusedSimpArgs false
open Go.RowKit
@[go_sem] theorem eqFm (a b c d : Int) (w : World) : (Op.equalIn 10000 23 (.agg #[.int .i64 a, .int .i64 b]) (.agg #[.int .i64 c, .int .i64 d])).run Try.prog w = .ok (a == c && b == d) w := by
  have u3 := Try.underlying3
  have a3 := Try.isAgg3
  have z3 := Try.sizeOf3
  rw [show (10000 : Nat) = 9999 + 1 from rfl, Op.equalIn]
  simp only [Sem.run_bind, run_underlying Try.underlying23, Result.andThen_ok]
  go_simp
  by_cases h1 : a = c <;> by_cases h2 : b = d <;> simp [h1, h2]
theorem infoFm : (Try.prog.info? 23).map (fun i => (i.zero, i.size, i.bytes)) = some (some (.agg #[.int .i64 0, .int .i64 0]), 2, 16) := by kernel_rfl
def AllR (w : World) (n : Nat) (l : Value) (wr : World) : Prop := ∃ A cp, l = .slice A n cp ∧ Sl wr 23 2 A n cp (allF n) ∧ Keep w.heap.size [] w wr ∧ ∀ x, x ∈ blks A → w.heap.size ≤ x
theorem allR_next {w wr w3 : World} {o : Obj} {k j : Nat} {A A2 : Option Addr} {c2 : Nat} (hj : j < 4) (hk : Keep w.heap.size [] w wr) (hbl : ∀ x, x ∈ blks A → w.heap.size ≤ x)
    (hs3 : Sl w3 23 2 A2 (4 * k + j + 1) c2 (allF (4 * k + j) ++ (#[.int .i64 ((k : Int) + 1), .int .i64 (j : Int)] : Array Value).toList)) (hk3 : Keep (wr.alloc o).heap.size (blks A) (wr.alloc o) w3) (hb3 : ∀ g, g ∈ blks A2 → g ∈ blks A ∨ g = (wr.alloc o).heap.size) :
    AllR w (4 * k + (j + 1)) (.slice A2 (4 * k + j + 1) c2) w3 := by
  have ka : Keep wr.heap.size [] wr (wr.alloc o) := (Keep.refl _ _ _).alloc (Nat.le_refl _) o
  refine ⟨A2, c2, rfl, ?_, (hk.trans (ka.mono hk.size (by simp))).trans (hk3.mono (Nat.le_trans hk.size ka.size) (fun x hx h => absurd (hbl x h) (by omega))), ?_⟩
  · have e : allF (4 * k + (j + 1)) = allF (4 * k + j) ++ (#[.int .i64 ((k : Int) + 1), .int .i64 (j : Int)] : Array Value).toList := by
      rw [show 4 * k + (j + 1) = 4 * k + j + 1 from rfl, allF_succ]
      have e1 : (4 * k + j) / 4 = k := by omega
      have e2 : (4 * k + j) % 4 = j := by omega
      rw [e1, e2]
    rw [e]
    exact hs3
  · intro x hx
    rcases hb3 x hx with h | h
    · exact hbl x h
    · rw [h]; exact Nat.le_trans hk.size ka.size
set_option maxHeartbeats 2000000 in
theorem all_any (w : World) : Calls Try.prog 26 #[] w fun e w' => ∃ A c, e = .returned (.slice A 16 c) ∧ Sl w' 23 2 A 16 c (allF 16) ∧ Keep w.heap.size [] w w' ∧ ∀ x, x ∈ blks A → w.heap.size ≤ x := by
  obtain ⟨i0, hi0, hz0, hz1, hz2⟩ := info_parts infoFm
  go_enter Try.func26, Try.ntmps26
  go_wp2_with fail
  go_loopw [1, 4] (fun l c wr => ∃ k : Nat, k ≤ 4 ∧ c = .int .i64 k ∧ AllR w (4 * k) l wr) (fun _ c _ => 4 - (intOf c).toNat)
  case atStart => exact ⟨0, Nat.zero_le _, rfl, none, 0, rfl, Sl.nil _ _ _, Keep.refl _ _ _, by simp [blks]⟩
  case round =>
    obtain ⟨k, hk, rfl, hr⟩ := hrel
    have HR := Lib.hid hr
    clear hr
    by_cases hlt : k < 4
    · have hk4 : (k : Int) < 4 := by omega
      go_wp2_with fail
      go_loopw [1, 3, 7] (fun l _ c wr => ∃ j : Nat, j ≤ 4 ∧ c = .int .i64 j ∧ AllR w (4 * k + j) l wr) (fun _ _ c _ => 4 - (intOf c).toNat)
      case atStart => exact ⟨0, Nat.zero_le _, rfl, HR.out⟩
      case round =>
        obtain ⟨j, hj, rfl, A, cp, rfl, hs, hkk, hbl⟩ := hrel
        have HS := Lib.hid hs
        have HK := Lib.hid hkk
        have HB := Lib.hid hbl
        clear hs hkk hbl
        by_cases hlt2 : j < 4
        · have hj4 : (j : Int) < 4 := by omega
          go_wp2_with (first
            | (at_builtin
               refine wpList_app1 _ rfl (.tmp 10) (.tmp 15) 51 rfl 23 i0 _ 2 16 Try.underlying51 hi0 hz0 hz1 hz2 rfl (by omega) A (4 * k + j) cp (allF (4 * k + j)) rfl (HS.out.alloc _) _ _ _ rfl (Blk.new _ _ _) rfl rfl (by omega) (by omega) ?_
               intro A2 c2 w3 hs3 hk3 hb3
               have HN : Hid (AllR w (4 * k + (j + 1)) (.slice A2 (4 * k + j + 1) c2) w3) := Lib.hid (allR_next hlt2 HK.out HB.out hs3 hk3 hb3)
               clear hs3 hk3 hb3))
          go_roundw
          case rel => exact ⟨j + 1, by omega, by go_num, HN.out⟩
          case measure => simp [intOf]; omega
        · obtain rfl : j = 4 := by omega
          go_wp2_with fail
          go_roundw
          case rel => exact ⟨k + 1, by omega, by go_num, A, cp, rfl, by rw [show 4 * (k + 1) = 4 * k + 4 from by omega]; exact HS.out, HK.out, HB.out⟩
          case measure => simp [intOf]; omega
    · obtain rfl : k = 4 := by omega
      obtain ⟨A, cp, rfl, hs, hkk, hbl⟩ := HR.out
      go_wp2_with fail
      go_ret
      exact ⟨A, cp, rfl, hs, hkk, hbl⟩
set_option maxHeartbeats 2000000 in
theorem index_any (w : World) (C F : Int) : Calls Try.prog 23 #[fagg C F] w fun e w' => e = .returned (.int .i64 (idxF C F)) ∧ Keep w.heap.size [] w w' := by
  go_enter Try.func23, Try.ntmps23
  have hb0 := Blk.new w 23 #[.int .i64 C, .int .i64 F]
  have HB0 := Lib.hid hb0
  clear hb0
  go_wp2_with fail
  refine (all_any _).mono ?_
  rintro e w1 ⟨A, c, rfl, hs, hk, hbl⟩
  have HS := Lib.hid hs
  have K1 : Hid (Keep w.heap.size [] w w1) := Lib.hid (((Keep.refl _ _ w).alloc (Nat.le_refl _) _).chain0 (Nat.le_refl _) hk)
  have B1 := Lib.hid (HB0.out.keepS hk (by simp))
  have hcap := hs.cap
  have hc1 : (16 : Int) ≤ (c : Int) := by omega
  have hc2 : (c : Int) ≤ 9223372036854775807 := by have := hcap.2; unfold maxLen at this; omega
  clear hs hk hbl hcap HB0
  go_wp2_with fail
  go_loopw [7] (fun i wr => ∃ k : Nat, k ≤ 16 ∧ i = .int .i64 k ∧ Keep w1.heap.size [] w1 wr ∧ ∀ j : Nat, j < k → ¬ (((j / 4 : Nat) : Int) + 1 = C ∧ ((j % 4 : Nat) : Int) = F)) (fun i _ => 16 - (intOf i).toNat)
  case atStart => exact ⟨0, Nat.zero_le _, rfl, Keep.refl _ _ _, fun j hj => by omega⟩
  case round =>
    obtain ⟨k, hk, rfl, hkp, hno⟩ := hrel
    have HK := Lib.hid hkp
    have HNO := Lib.hid hno
    clear hkp hno
    by_cases hlt : k < 16
    · obtain ⟨g, rfl, hg, hc⟩ := (HS.out.keep0 HK.out).cell (j := k * 2) (by omega)
      obtain ⟨g', hgg, _, hc'⟩ := (HS.out.keep0 HK.out).cell (j := k * 2 + 1) (by omega)
      obtain rfl : g = g' := by injection hgg with h; injection h
      have e0 : wr.cell? ⟨g, k * 2, none⟩ = some (.int .i64 (((k / 4 : Nat) : Int) + 1)) := hc.trans (allF_at 16 k hlt).1
      have e1 : wr.cell? ⟨g, k * 2 + 1, none⟩ = some (.int .i64 ((k % 4 : Nat) : Int)) := hc'.trans (allF_at 16 k hlt).2
      obtain ⟨a, ha⟩ : ∃ a, (((k / 4 : Nat) : Int) + 1) = a := ⟨_, rfl⟩
      obtain ⟨b, hb⟩ : ∃ b, ((k % 4 : Nat) : Int) = b := ⟨_, rfl⟩
      rw [ha] at e0
      rw [hb] at e1
      have HAB := Lib.hid (And.intro ha hb)
      have hx := Blk.new wr 23 #[.int .i64 a, .int .i64 b]
      have hbx := ((B1.out.keepS HK.out (by simp)).alloc (.cells #[.int .i64 a, .int .i64 b] 23))
      have d0 : (wr.alloc (.cells #[.int .i64 a, .int .i64 b] 23)).cell? ⟨w.heap.size, 0, none⟩ = some (.int .i64 C) := hbx.cell 0
      have d1 : (wr.alloc (.cells #[.int .i64 a, .int .i64 b] 23)).cell? ⟨w.heap.size, 1, none⟩ = some (.int .i64 F) := hbx.cell 1
      have d2 : (wr.alloc (.cells #[.int .i64 a, .int .i64 b] 23)).cell? ⟨wr.heap.size, 0, none⟩ = some (.int .i64 a) := hx.cell 0
      have d3 : (wr.alloc (.cells #[.int .i64 a, .int .i64 b] 23)).cell? ⟨wr.heap.size, 1, none⟩ = some (.int .i64 b) := hx.cell 1
      have hkx : (k : Int) < 16 := by omega
      clear hc hc' hgg ha hb hx hbx hg
      by_cases hq : a = C ∧ b = F
      · obtain ⟨rfl, rfl⟩ := hq
        go_wp2_with fail
        go_ret
        refine ⟨?_, K1.out.chain0 (Nat.le_refl _) (HK.out.alloc HK.out.size _)⟩
        rw [idxF_hit hlt HAB.out.1 HAB.out.2]
        rfl
      · have kn : Hid (Keep w1.heap.size [] w1 (wr.alloc (.cells #[.int .i64 a, .int .i64 b] 23))) := Lib.hid (HK.out.alloc HK.out.size _)
        have hno : Hid (∀ j : Nat, j < k + 1 → ¬ (((j / 4 : Nat) : Int) + 1 = C ∧ ((j % 4 : Nat) : Int) = F)) := Lib.hid (fun j hj => by
          by_cases e : j = k
          · subst e; rw [HAB.out.1, HAB.out.2]; exact hq
          · exact HNO.out j (by omega))
        by_cases h1 : a = C
        · have h2 : ¬ b = F := fun h => hq ⟨h1, h⟩
          clear hq
          subst h1
          go_wp2_with fail
          go_roundw
          case rel => exact ⟨k + 1, by omega, by go_num, kn.out, hno.out⟩
          case measure => simp [intOf]; omega
        · clear hq
          go_wp2_with fail
          go_roundw
          case rel => exact ⟨k + 1, by omega, by go_num, kn.out, hno.out⟩
          case measure => simp [intOf]; omega
    · obtain rfl : k = 16 := by omega
      go_wp2_with fail
      go_ret
      refine ⟨?_, K1.out.chain0 (Nat.le_refl _) HK.out⟩
      rw [idxF_miss HNO.out]
      rfl
end Go.Proofs.Ytnneanbboooneaa
