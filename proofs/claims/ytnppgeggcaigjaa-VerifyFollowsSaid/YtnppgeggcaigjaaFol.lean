/- The law VerifyFollows: its walk. -/
import Derived.Test.YtnppgeggcaigjaaEnc
namespace Go.Proofs.Ytnppgeggcaigjaa
set_option linter.unusedVariables false
set_option linter.unusedSimpArgs false
open Go.RowKit
/-- a slice of ints -/
def IntsAt (w : World) (B : Nat) (A : Option Addr) (n : Nat) : Prop :=
  0 < n → ∃ bl off, A = some ⟨bl, off, none⟩ ∧ bl < B ∧ ∀ i, i < n → ∃ x : Int, w.cell? ⟨bl, off + i, none⟩ = some (.int .i64 x)
/-- the stage and the path that led to it -/
def PathOk (st : Int) (p : Value) : Prop :=
  (st = 0 ∧ p = .string { data := #[] }) ∨ (st = 1 ∧ p = .string { data := #[49] }) ∨ (st = 2 ∧ p = .string { data := #[49, 50] }) ∨
  (st = 3 ∧ p = .string { data := #[49, 50, 51] }) ∨ (st = 5 ∧ p = .string { data := #[49, 50, 53] }) ∨ (st = 4 ∧ p = .string { data := #[52] })
theorem follows_cases {a b : Int} (h : follows a b = true) : (a = 0 ∧ b = 1) ∨ (a = 0 ∧ b = 4) ∨ (a = 1 ∧ b = 2) ∨ (a = 2 ∧ b = 3) ∨ (a = 2 ∧ b = 5) := by
  simp [follows] at h; omega

/-- the string of one octet laid in a new slice -/
theorem conv1 (w : World) (x : Int) (s : ByteArray) (h : strOfNums [x] = s) :
    (convert 25 9 (.slice (some ⟨w.heap.size, 0, none⟩) 1 1)).run Try.prog (w.alloc (.cells #[.int .u8 x] 5)) = .ok (.string s) (w.alloc (.cells #[.int .u8 x] 5)) := by
  subst h
  refine conv_str (P := Try.prog) 25 9 5 Try.underlying25 Try.underlying5 Try.underlying9 _ 1 1 [x] ⟨rfl, fun _ => ⟨w.heap.size, 0, rfl, (Blk.new w 5 #[.int .u8 x]).lt, ?_⟩⟩
  intro j u hj
  have hb := Blk.new w 5 #[.int .u8 x]
  match j, hj with
  | 0, hj => simp [octs] at hj; subst hj; exact hb.cell 0

set_option maxRecDepth 100000 in
set_option maxHeartbeats 4000000 in
theorem vfollows_any (w : World) (A : Option Addr) (n c : Nat) (hA : IntsAt w w.heap.size A n) :
    Calls Try.prog 7 #[.slice A n c] w (LawPost w) := by
  by_cases hlt : 100 < n
  · have hl : (100 : Int) < (n : Int) := by omega
    clear hA
    go_enter Try.func7, Try.ntmps7
    go_wp2_with fail
    refine (alive_any _).mono ?_
    rintro e w1 ⟨rfl, hk⟩
    have HK := Lib.hid hk
    clear hk
    go_wp2_with fail
    go_ret
    exact ⟨rfl, HK.out⟩
  have hl : (n : Int) ≤ 100 := by omega
  go_enter Try.func7, Try.ntmps7
  go_wp2_with fail
  go_loopw [3, 4, 5] (fun a p i wr => Keep w.heap.size [] w wr ∧ (∃ st : Int, a = .int .i64 st ∧ PathOk st p) ∧ ∃ k : Nat, k ≤ n ∧ i = .int .i64 k) (fun _ _ i _ => n - (intOf i).toNat)
  case atStart => exact ⟨Keep.refl _ _ _, ⟨0, rfl, .inl ⟨rfl, rfl⟩⟩, 0, Nat.zero_le _, rfl⟩
  case round =>
    obtain ⟨hk, ⟨st, rfl, hp⟩, k, hkn, rfl⟩ := hrel
    have HK := Lib.hid hk
    clear hk
    by_cases hlt : k < n
    · obtain ⟨bl, off, rfl, hbl, hcs⟩ := hA (by omega)
      obtain ⟨v, c0'⟩ := hcs k hlt
      have c0 := (HK.out.cell (p := ⟨bl, off + k, none⟩) hbl (by simp)).trans c0'
      clear c0' hcs hA
      cases hf : follows st v with
      | false =>
        have HF := Lib.hid hf
        have HP := Lib.hid hp
        clear hf hp
        go_wp2_with fail
        refine (follows_v _ st v false HF.out).mono ?_
        rintro e w' ⟨rfl, rfl⟩
        go_wp2_with fail
        go_roundw
        case rel => exact ⟨HK.out, ⟨st, rfl, HP.out⟩, k + 1, hlt, by simp⟩
        case measure => simp [intOf] <;> omega
      | true =>
        have HP := Lib.hid hp
        have hfc := follows_cases hf
        clear hp
        rcases hfc with ⟨rfl, rfl⟩ | ⟨rfl, rfl⟩ | ⟨rfl, rfl⟩ | ⟨rfl, rfl⟩ | ⟨rfl, rfl⟩
        all_goals clear hf
        all_goals
          have hp := HP.out
          simp [PathOk] at hp
          subst hp
          clear HP
        · have cv := conv1 wr 49 { data := #[49] } (by decide)
          go_wp2_with fail
          refine (follows_v _ _ _ true (by decide)).mono ?_
          rintro e w' ⟨rfl, rfl⟩
          go_wp2_with fail
          refine (final_v _ _ false (by decide)).mono ?_
          rintro e w' ⟨rfl, rfl⟩
          go_wp2_with fail
          go_roundw
          case rel => exact ⟨HK.out.alloc HK.out.size _, ⟨1, rfl, .inr (.inl ⟨rfl, rfl⟩)⟩, k + 1, hlt, by simp⟩
          case measure => simp [intOf] <;> omega
        · have cv := conv1 wr 52 { data := #[52] } (by decide)
          go_wp2_with fail
          refine (follows_v _ _ _ true (by decide)).mono ?_
          rintro e w' ⟨rfl, rfl⟩
          go_wp2_with fail
          refine (final_v _ _ false (by decide)).mono ?_
          rintro e w' ⟨rfl, rfl⟩
          go_wp2_with fail
          go_roundw
          case rel => exact ⟨HK.out.alloc HK.out.size _, ⟨4, rfl, .inr (.inr (.inr (.inr (.inr (⟨rfl, rfl⟩)))))⟩, k + 1, hlt, by simp⟩
          case measure => simp [intOf] <;> omega
        · have cv := conv1 wr 50 { data := #[50] } (by decide)
          go_wp2_with fail
          refine (follows_v _ _ _ true (by decide)).mono ?_
          rintro e w' ⟨rfl, rfl⟩
          go_wp2_with fail
          refine (final_v _ _ false (by decide)).mono ?_
          rintro e w' ⟨rfl, rfl⟩
          go_wp2_with fail
          go_roundw
          case rel => exact ⟨HK.out.alloc HK.out.size _, ⟨2, rfl, .inr (.inr (.inl ⟨rfl, rfl⟩))⟩, k + 1, hlt, by simp⟩
          case measure => simp [intOf] <;> omega
        · have cv := conv1 wr 51 { data := #[51] } (by decide)
          go_wp2_with fail
          refine (follows_v _ _ _ true (by decide)).mono ?_
          rintro e w' ⟨rfl, rfl⟩
          go_wp2_with fail
          refine (final_v _ _ false (by decide)).mono ?_
          rintro e w' ⟨rfl, rfl⟩
          go_wp2_with fail
          go_roundw
          case rel => exact ⟨HK.out.alloc HK.out.size _, ⟨3, rfl, .inr (.inr (.inr (.inl ⟨rfl, rfl⟩)))⟩, k + 1, hlt, by simp⟩
          case measure => simp [intOf] <;> omega
        · have cv := conv1 wr 53 { data := #[53] } (by decide)
          go_wp2_with fail
          refine (follows_v _ _ _ true (by decide)).mono ?_
          rintro e w' ⟨rfl, rfl⟩
          go_wp2_with fail
          refine (final_v _ _ false (by decide)).mono ?_
          rintro e w' ⟨rfl, rfl⟩
          go_wp2_with fail
          go_roundw
          case rel => exact ⟨HK.out.alloc HK.out.size _, ⟨5, rfl, .inr (.inr (.inr (.inr (.inl ⟨rfl, rfl⟩))))⟩, k + 1, hlt, by simp⟩
          case measure => simp [intOf] <;> omega
    · obtain rfl : k = n := by omega
      have HP := Lib.hid hp
      clear hA
      rcases hp with ⟨rfl, rfl⟩ | ⟨rfl, rfl⟩ | ⟨rfl, rfl⟩ | ⟨rfl, rfl⟩ | ⟨rfl, rfl⟩ | ⟨rfl, rfl⟩
      · go_wp2_with fail
        refine (final_v _ _ false (by decide)).mono ?_
        rintro e w' ⟨rfl, rfl⟩
        go_wp2_with fail
        refine (alive_any _).mono ?_
        rintro e w' ⟨rfl, hk⟩
        have K2 : Hid (Keep w.heap.size [] w w') := HK.out.chain0 (Nat.le_refl _) hk
        clear hk
        go_wp2_with fail
        go_ret
        exact ⟨rfl, K2.out⟩
      · go_wp2_with fail
        refine (final_v _ _ false (by decide)).mono ?_
        rintro e w' ⟨rfl, rfl⟩
        go_wp2_with fail
        refine (alive_any _).mono ?_
        rintro e w' ⟨rfl, hk⟩
        have K2 : Hid (Keep w.heap.size [] w w') := HK.out.chain0 (Nat.le_refl _) hk
        clear hk
        go_wp2_with fail
        go_ret
        exact ⟨rfl, K2.out⟩
      · go_wp2_with fail
        refine (final_v _ _ false (by decide)).mono ?_
        rintro e w' ⟨rfl, rfl⟩
        go_wp2_with fail
        refine (alive_any _).mono ?_
        rintro e w' ⟨rfl, hk⟩
        have K2 : Hid (Keep w.heap.size [] w w') := HK.out.chain0 (Nat.le_refl _) hk
        clear hk
        go_wp2_with fail
        go_ret
        exact ⟨rfl, K2.out⟩
      · go_wp2_with fail
        refine (final_v _ _ true (by decide)).mono ?_
        rintro e w' ⟨rfl, rfl⟩
        go_wp2_with fail
        refine (alive_any _).mono ?_
        rintro e w' ⟨rfl, hk⟩
        have K2 : Hid (Keep w.heap.size [] w w') := HK.out.chain0 (Nat.le_refl _) hk
        clear hk
        go_wp2_with fail
        go_ret
        exact ⟨rfl, K2.out⟩
      · go_wp2_with fail
        refine (final_v _ _ true (by decide)).mono ?_
        rintro e w' ⟨rfl, rfl⟩
        go_wp2_with fail
        refine (alive_any _).mono ?_
        rintro e w' ⟨rfl, hk⟩
        have K2 : Hid (Keep w.heap.size [] w w') := HK.out.chain0 (Nat.le_refl _) hk
        clear hk
        go_wp2_with fail
        go_ret
        exact ⟨rfl, K2.out⟩
      · go_wp2_with fail
        refine (final_v _ _ true (by decide)).mono ?_
        rintro e w' ⟨rfl, rfl⟩
        go_wp2_with fail
        refine (alive_any _).mono ?_
        rintro e w' ⟨rfl, hk⟩
        have K2 : Hid (Keep w.heap.size [] w w') := HK.out.chain0 (Nat.le_refl _) hk
        clear hk
        go_wp2_with fail
        go_ret
        exact ⟨rfl, K2.out⟩
end Go.Proofs.Ytnppgeggcaigjaa
