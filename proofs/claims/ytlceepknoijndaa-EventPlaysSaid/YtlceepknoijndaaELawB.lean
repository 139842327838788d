/- Disables: the walk. -/
import Derived.Test.YtlceepknoijndaaELawA
namespace Go.Proofs.Ytlceepknoijndaa
set_option linter.unusedVariables false
set_option linter.unusedSimpArgs false
open Go.RowKit
theorem knP_in {id : Int} (h0 : 0 ≤ id) (h1 : id ≤ 65535) : knP id = true := by simp [knP, h0, h1]
theorem en_new {s : St} {id : Int} (hk : knP id = true) (hn : id ∉ s.off) (hl : s.off.length < 256) : enP s id false = (setOff s (s.off ++ [id]), 0) := by
  unfold enP
  rw [if_neg (by rw [hk]; decide), if_neg (by decide), if_neg (fun h => by omega), if_neg hn]
theorem en_full {s : St} {id : Int} (hk : knP id = true) (hn : id ∉ s.off) (hl : 256 ≤ s.off.length) : enP s id false = (s, 7) := by
  unfold enP
  rw [if_neg (by rw [hk]; decide), if_neg (by decide), if_pos ⟨hn, hl⟩]
theorem en_old {s : St} {id : Int} (hk : knP id = true) (hn : id ∈ s.off) : enP s id false = (setOff s s.off, 0) := by
  unfold enP
  rw [if_neg (by rw [hk]; decide), if_neg (by decide), if_neg (fun h => h.1 hn), if_pos hn]
theorem en_on {s : St} {id : Int} (hk : knP id = true) : enP s id true = (setOff s (s.off.erase id), 0) := by
  unfold enP
  rw [if_neg (by rw [hk]; decide), if_pos rfl]
/-- the IDs from f on -/
def offL (f : Int) (k : Nat) : List Int := (List.range k).map (fun i : Nat => f + (i : Int))
theorem offL_succ (f : Int) (k : Nat) : offL f (k + 1) = offL f k ++ [f + (k : Int)] := by simp [offL, List.range_succ]
theorem offL_len (f : Int) (k : Nat) : (offL f k).length = k := by simp [offL]
theorem offL_mem (f x : Int) (k : Nat) : x ∈ offL f k ↔ f ≤ x ∧ x < f + (k : Int) := by
  simp only [offL, List.mem_map, List.mem_range]
  constructor
  · rintro ⟨i, h1, h2⟩; omega
  · intro h; exact ⟨(x - f).toNat, by omega, by omega⟩
def sD (l : List Int) : St := ⟨0, [], 0, 0, 0, 0, 0, l⟩
set_option maxHeartbeats 4000000 in
theorem disables_any (w : World) (f : Int) : Calls Try.prog 4 #[.int .i64 f] w (LawPost w) := by
  by_cases h0 : f < 0
  · go_enter Try.func4, Try.ntmps4
    go_wp2_with fail
    refine (alive_any _).mono ?_
    rintro e w1 ⟨rfl, hk⟩
    have K1 := Lib.hid hk
    clear hk
    go_wp2_with fail
    go_ret
    exact ⟨rfl, K1.out⟩
  by_cases h1 : 60000 < f
  · go_enter Try.func4, Try.ntmps4
    go_wp2_with fail
    refine (alive_any _).mono ?_
    rintro e w1 ⟨rfl, hk⟩
    have K1 := Lib.hid hk
    clear hk
    go_wp2_with fail
    go_ret
    exact ⟨rfl, K1.out⟩
  have hf0 : 0 ≤ f := by omega
  have hf1 : f ≤ 60000 := by omega
  have E1 : Hid (enP (sD (offL f 256)) (f + 256) false = (sD (offL f 256), 7)) := Lib.hid (en_full (knP_in (by omega) (by omega)) (by show f + 256 ∉ offL f 256; rw [offL_mem]; omega) (by show 256 ≤ (offL f 256).length; rw [offL_len]; exact Nat.le_refl _))
  have E2 : Hid (enP (sD (offL f 256)) f false = (sD (offL f 256), 0)) := Lib.hid (en_old (s := sD (offL f 256)) (knP_in (by omega) (by omega)) (by show f ∈ offL f 256; rw [offL_mem]; omega))
  have E3 : Hid (enP (sD (offL f 256)) (f + 5) true = (sD ((offL f 256).erase (f + 5)), 0)) := Lib.hid (en_on (s := sD (offL f 256)) (knP_in (by omega) (by omega)))
  have hm5 : f + 5 ∈ offL f 256 := by rw [offL_mem]; omega
  have hlen : ((offL f 256).erase (f + 5)).length = 255 := by rw [List.length_erase_of_mem hm5, offL_len]
  have hsub : ∀ x, x ∈ (offL f 256).erase (f + 5) → x < f + 256 := fun x hx => by have := (offL_mem f x 256).1 (List.mem_of_mem_erase hx); omega
  have E4 : Hid (enP (sD ((offL f 256).erase (f + 5))) (f + 256) false = (sD ((offL f 256).erase (f + 5) ++ [f + 256]), 0)) := Lib.hid (en_new (s := sD ((offL f 256).erase (f + 5))) (knP_in (by omega) (by omega)) (fun h => by have := hsub _ h; omega) (by show ((offL f 256).erase (f + 5)).length < 256; rw [hlen]; decide))
  have E5 : Hid (enP (sD ((offL f 256).erase (f + 5) ++ [f + 256])) (f + 257) false = (sD ((offL f 256).erase (f + 5) ++ [f + 256]), 7)) := Lib.hid (en_full (s := sD ((offL f 256).erase (f + 5) ++ [f + 256])) (knP_in (by omega) (by omega)) (fun h => by
      rcases List.mem_append.1 h with h2 | h2
      · have := hsub _ h2; omega
      · have h3 := List.mem_singleton.1 h2; omega) (by show 256 ≤ ((offL f 256).erase (f + 5) ++ [f + 256]).length; rw [List.length_append, hlen]; exact Nat.le_refl _))
  clear hm5 hlen hsub h0 h1
  go_enter Try.func4, Try.ntmps4
  go_wp2_with fail
  refine (new_any _ 0 0 (by decide)).mono ?_
  rintro e w1 ⟨rfl, hs, hk⟩
  have S1 : Hid (SW w w1 (w.heap.size + 1) w.heap.size none 0 0 (sD (offL f 0))) := Lib.hid ⟨hk, hs, by omega, by omega, by simp [blks]⟩
  clear hs hk
  obtain ⟨g, hg⟩ : ∃ g, w.heap.size + 1 = g := ⟨_, rfl⟩
  obtain ⟨r, hr⟩ : ∃ r, w.heap.size = r := ⟨_, rfl⟩
  rw [hg] at S1 ⊢
  have S1' : Hid (SW w w1 g r none 0 0 (sD (offL f 0))) := by rw [← hr]; exact S1
  clear hg hr S1
  go_wp2_with fail
  go_loopw [4] (fun i wr => ∃ k : Nat, k ≤ 256 ∧ i = .int .i64 k ∧ SW w wr g r none 0 0 (sD (offL f k))) (fun i _ => 256 - (intOf i).toNat)
  case atStart => exact ⟨0, Nat.zero_le _, rfl, S1'.out⟩
  case round =>
    obtain ⟨k, hk, rfl, hs⟩ := hrel
    have S := Lib.hid hs
    clear hs
    by_cases hlt : k < 256
    · have hkx : (k : Int) < 256 := by omega
      have EK : Hid (enP (sD (offL f k)) (f + (k : Int)) false = (sD (offL f (k + 1)), 0)) := Lib.hid (by
        rw [offL_succ]
        exact en_new (s := sD (offL f k)) (knP_in (by omega) (by omega)) (by show f + (k : Int) ∉ offL f k; rw [offL_mem]; omega) (by show (offL f k).length < 256; rw [offL_len]; exact hlt))
      go_wp2_with fail
      refine (enable_any _ g r none 0 0 _ _ (f + (k : Int)) false 0 EK.out S.out.sv).mono ?_
      rintro e w2 ⟨rfl, hs, hk2⟩
      have S2 := Lib.hid (S.out.enable hs hk2)
      clear hs hk2
      go_wp2_with fail
      go_roundw
      case rel => exact ⟨k + 1, by omega, by go_num, S2.out⟩
      case measure => simp [intOf]; omega
    · obtain rfl : k = 256 := by omega
      go_wp2_with fail
      refine (enable_any _ g r none 0 0 _ _ (f + 256) false 7 E1.out S.out.sv).mono ?_
      rintro e w2 ⟨rfl, hs, hk2⟩
      have S2 := Lib.hid (S.out.enable hs hk2)
      clear hs hk2 S
      go_wp2_with fail
      refine (enable_any _ g r none 0 0 _ _ f false 0 E2.out S2.out.sv).mono ?_
      rintro e w3 ⟨rfl, hs, hk2⟩
      have S3 := Lib.hid (S2.out.enable hs hk2)
      clear hs hk2 S2
      go_wp2_with fail
      refine (enable_any _ g r none 0 0 _ _ (f + 5) true 0 E3.out S3.out.sv).mono ?_
      rintro e w4 ⟨rfl, hs, hk2⟩
      have S4 := Lib.hid (S3.out.enable hs hk2)
      clear hs hk2 S3
      go_wp2_with fail
      refine (enable_any _ g r none 0 0 _ _ (f + 256) false 0 E4.out S4.out.sv).mono ?_
      rintro e w5 ⟨rfl, hs, hk2⟩
      have S5 := Lib.hid (S4.out.enable hs hk2)
      clear hs hk2 S4
      have e257 : f + 256 + 1 = f + 257 := by omega
      go_wp2_with fail
      try rw [e257]
      refine (enable_any _ g r none 0 0 _ _ (f + 257) false 7 E5.out S5.out.sv).mono ?_
      rintro e w6 ⟨rfl, hs, hk2⟩
      have S6 := Lib.hid (S5.out.enable hs hk2)
      clear hs hk2 S5
      go_wp2_with fail
      refine (alive_any _).mono ?_
      rintro e w7 ⟨rfl, hk7⟩
      have S7 := Lib.hid (S6.out.next hk7)
      clear hk7
      go_wp2_with fail
      go_ret
      exact ⟨rfl, S7.out.keep⟩
end Go.Proofs.Ytlceepknoijndaa
