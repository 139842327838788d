/- The ledger: New, ok, source, number, seen, Seen, Newest, Mark: their contracts. -/
import Derived.Test.YtfkbcflgbjncdaaLeP
namespace Go.Proofs.Ytfkbcflgbjncdaa
set_option linter.unusedVariables false
set_option linter.unusedSimpArgs false
open Go.RowKit
set_option maxHeartbeats 400000 in
theorem lok_any (w : World) (g : Nat) (h0 : w.cell? ⟨g, 0, none⟩ = some (.bool true)) :
    Calls Try.prog 43 #[bptr g] w fun e w' => e = .returned (.bool true) ∧ w = w' := by
  go_enter Try.func43, Try.ntmps43
  go_wp2_with fail
  go_ret
  exact ⟨rfl, rfl⟩
set_option maxHeartbeats 400000 in
theorem lok_nil (w : World) : Calls Try.prog 43 #[.pointer none] w fun e w' => e = .returned (.bool false) ∧ w = w' := by
  go_enter Try.func43, Try.ntmps43
  go_wp2_with fail
  go_ret
  exact ⟨rfl, rfl⟩
set_option maxHeartbeats 400000 in
theorem lok_zero (w : World) (g : Nat) (h0 : w.cell? ⟨g, 0, none⟩ = some (.bool false)) :
    Calls Try.prog 43 #[bptr g] w fun e w' => e = .returned (.bool false) ∧ w = w' := by
  go_enter Try.func43, Try.ntmps43
  go_wp2_with fail
  go_ret
  exact ⟨rfl, rfl⟩
set_option maxHeartbeats 400000 in
theorem source_b (w : World) (n : Int) (b : Bool) (hb : okS n = b) :
    Calls Try.prog 44 #[.int .i64 n] w fun e w' => e = .returned (.bool b) ∧ w = w' := by
  subst hb
  unfold okS
  by_cases h : 0 ≤ n
  · by_cases h2 : n < 16
    all_goals
      go_enter Try.func44, Try.ntmps44
      go_wp2_with fail
      go_ret
      exact ⟨by simp [h, h2], rfl⟩
  · go_enter Try.func44, Try.ntmps44
    go_wp2_with fail
    go_ret
    exact ⟨by simp [h] <;> omega, rfl⟩
set_option maxHeartbeats 400000 in
theorem number_b (w : World) (n : Int) (b : Bool) (hb : okN n = b) :
    Calls Try.prog 45 #[.int .i64 n] w fun e w' => e = .returned (.bool b) ∧ w = w' := by
  subst hb
  unfold okN
  by_cases h : 1 ≤ n
  · by_cases h2 : n ≤ 65535
    all_goals
      go_enter Try.func45, Try.ntmps45
      go_wp2_with fail
      go_ret
      exact ⟨by simp [h, h2], rfl⟩
  · go_enter Try.func45, Try.ntmps45
    go_wp2_with fail
    go_ret
    exact ⟨by simp [h] <;> omega, rfl⟩
theorem u64_and1 (x : Int) (h0 : 0 ≤ x) (h1 : x < 18446744073709551616) : bits .and .u64 x 1 = x % 2 := by
  obtain ⟨a, rfl⟩ := Int.eq_ofNat_of_zero_le h0
  have := u64_and_nat a 1 (by omega) (by decide)
  rw [Nat.and_one_is_mod] at this
  rw [show (1 : Int) = ((1 : Nat) : Int) from rfl, this]
  omega
theorem div_bd (m : Int) (k : Nat) (h0 : 0 ≤ m) (h1 : m < 18446744073709551616) : 0 ≤ m / 2 ^ k ∧ m / 2 ^ k < 18446744073709551616 := by
  have hp : (0 : Int) < 2 ^ k := Int.pow_pos (by decide)
  have h2 : m / 2 ^ k ≤ m := Int.ediv_le_self _ h0
  exact ⟨Int.ediv_nonneg h0 (by omega), by omega⟩
set_option maxHeartbeats 1000000 in
theorem seen_b (w : World) (r : Rc) (n : Int) (b : Bool) (hb : seenB r n = b) (hr : RcOk r) (hn0 : 1 ≤ n) (hn1 : n ≤ 65535) :
    Calls Try.prog 46 #[.agg #[.int .i64 r.n, .int .u64 r.m], .int .i64 n] w fun e w' => e = .returned (.bool b) ∧ w.alloc (.cells #[.int .i64 r.n, .int .u64 r.m] 97) = w' := by
  obtain ⟨⟨a0, a1⟩, a2, a3⟩ := hr
  subst hb
  unfold seenB
  by_cases h : 64 ≤ r.n - n
  · go_enter Try.func46, Try.ntmps46
    go_wp2_with fail
    go_ret
    exact ⟨by simp [h], rfl⟩
  · by_cases h2 : 0 ≤ r.n - n
    · obtain ⟨k, hk⟩ := Int.eq_ofNat_of_zero_le h2
      have hk64 : k < 64 := by omega
      have hbd := div_bd r.m k a2 a3
      have hand := u64_and1 (r.m / 2 ^ k) hbd.1 hbd.2
      have HK := Lib.hid hk
      have h' : r.n - n < 64 := by omega
      have hk' : (k : Int) < 64 := by omega
      have hsh : ∀ W : World, (Op.shift .shr .u64 r.m .i64 (k : Int)).run Try.prog W = .ok (.int .u64 (r.m / 2 ^ k)) W := fun W => run_shr Try.prog W .u64 .i64 r.m _ k rfl (by simp [IntKind.bits]; omega)
      clear hbd
      go_enter Try.func46, Try.ntmps46
      go_wp2_with fail
      go_ret
      refine ⟨rfl, rfl⟩
    · go_enter Try.func46, Try.ntmps46
      go_wp2_with fail
      go_ret
      exact ⟨by simp [h]; intro hh; omega, rfl⟩

set_option maxHeartbeats 400000 in
theorem new_any (w : World) : Calls Try.prog 6 #[] w fun e w' => ∃ g, e = .returned (bptr g) ∧ g = w.heap.size ∧ Led w' g zeroL ∧ Keep w.heap.size [] w w' := by
  go_enter Try.func6, Try.ntmps6
  go_wp2_with fail
  go_ret
  refine ⟨_, rfl, rfl, ⟨rfl, Blk.new _ _ _, ?_⟩, (Keep.refl _ _ _).alloc (Nat.le_refl _) _⟩
  intro r hr
  obtain rfl := List.eq_of_mem_replicate hr
  exact ⟨⟨by simp, by simp⟩, by simp, by simp⟩
def seenL (L : List Rc) (s n : Int) : Bool := !okS s || (!okN n || (match L[s.toNat]? with | some r => seenB r n | none => true))
def newestL (L : List Rc) (s : Int) : Int := if okS s then (match L[s.toNat]? with | some r => r.n | none => 0) else 0
theorem okS_iff {s : Int} : okS s = true ↔ 0 ≤ s ∧ s < 16 := by simp [okS]
theorem okN_iff {n : Int} : okN n = true ↔ 1 ≤ n ∧ n ≤ 65535 := by simp [okN]
/-! ### Seen -/
theorem seenL_bad {L : List Rc} {s n : Int} (h : okS s = false ∨ okN n = false) : seenL L s n = true := by
  unfold seenL
  rcases h with h | h
  · rw [h]; rfl
  · rw [h]; simp
theorem seenL_at {L : List Rc} {i : Nat} {n : Int} {r : Rc} (hs : okS (i : Int) = true) (hn : okN n = true) (hr : L[i]? = some r) : seenL L i n = seenB r n := by
  unfold seenL
  rw [hs, hn, Int.toNat_natCast, hr]
  rfl
set_option maxHeartbeats 1000000 in
theorem seenl_any (w : World) (g : Nat) (L : List Rc) (s n : Int) (b : Bool) (hb : seenL L s n = b) (hL : Led w g L) :
    Calls Try.prog 9 #[bptr g, .int .i64 s, .int .i64 n] w fun e w' => e = .returned (.bool b) ∧ Keep w.heap.size [] w w' := by
  subst hb
  cases hs : okS s with
  | false =>
    rw [seenL_bad (.inl hs)]
    have HS := Lib.hid hs
    have HM := Lib.hid hL.made
    clear hs hL
    go_enter Try.func9, Try.ntmps9
    go_wp2_with fail
    refine (lok_any _ g HM.out).mono ?_
    rintro e w' ⟨rfl, rfl⟩
    go_wp2_with fail
    refine (source_b _ s false HS.out).mono ?_
    rintro e w' ⟨rfl, rfl⟩
    go_wp2_with fail
    go_ret
    exact ⟨rfl, Keep.refl _ _ _⟩
  | true =>
    cases hn : okN n with
    | false =>
      rw [seenL_bad (.inr hn)]
      have HS := Lib.hid hs
      have HN := Lib.hid hn
      have HM := Lib.hid hL.made
      clear hs hL hn
      go_enter Try.func9, Try.ntmps9
      go_wp2_with fail
      refine (lok_any _ g HM.out).mono ?_
      rintro e w' ⟨rfl, rfl⟩
      go_wp2_with fail
      refine (source_b _ s true HS.out).mono ?_
      rintro e w' ⟨rfl, rfl⟩
      go_wp2_with fail
      refine (number_b _ n false HN.out).mono ?_
      rintro e w' ⟨rfl, rfl⟩
      go_wp2_with fail
      go_ret
      exact ⟨rfl, Keep.refl _ _ _⟩
    | true =>
      obtain ⟨s0, s1⟩ := okS_iff.1 hs
      obtain ⟨i, rfl⟩ := Int.eq_ofNat_of_zero_le s0
      obtain ⟨r, hr, hrok⟩ := hL.at_ (i := i) (by omega)
      rw [seenL_at hs hn hr]
      obtain ⟨n0, n1⟩ := okN_iff.1 hn
      obtain ⟨b, hb⟩ : ∃ b, seenB r n = b := ⟨_, rfl⟩
      rw [hb]
      obtain ⟨c1, c2⟩ := hL.at1 hr
      have HS := Lib.hid hs
      have HN := Lib.hid hn
      have HB := Lib.hid hb
      have HM := Lib.hid hL.made
      have HR := Lib.hid hrok
      clear hs hL hr hn hb hrok
      go_enter Try.func9, Try.ntmps9
      go_wp2_with fail
      refine (lok_any _ g HM.out).mono ?_
      rintro e w' ⟨rfl, rfl⟩
      go_wp2_with fail
      refine (source_b _ _ true HS.out).mono ?_
      rintro e w' ⟨rfl, rfl⟩
      go_wp2_with fail
      refine (number_b _ n true HN.out).mono ?_
      rintro e w' ⟨rfl, rfl⟩
      go_wp2_with fail
      refine (seen_b _ r n b HB.out HR.out n0 n1).mono ?_
      rintro e w' ⟨rfl, rfl⟩
      go_wp2_with fail
      go_ret
      exact ⟨rfl, (Keep.refl _ _ _).alloc (Nat.le_refl _) _⟩

/-! ### Mark -/
def markL (L : List Rc) (s n : Int) : List Rc × Int :=
  if okS s && okN n then (match L[s.toNat]? with | some r => if seenB r n then (L, 9) else (L.set s.toNat (markR r n), 0) | none => (L, 1)) else (L, 1)
theorem shl_min (x : Int) (d : Nat) : IntKind.u64.wrap (x * 2 ^ min d 64) = shlU x d := by
  by_cases h : 64 ≤ d
  · rw [shlU_big x d h, Nat.min_eq_right h, IntKind.wrap_u64]; omega
  · rw [Nat.min_eq_left (by omega), IntKind.wrap_u64]; rfl
theorem shl_wrap (x : Int) (n : Nat) : IntKind.u64.wrap (x * 2 ^ n) = shlU x n := by rw [IntKind.wrap_u64]; rfl
def MarkPost (w : World) (g : Nat) (r : List Rc × Int) (e : Ending) (w' : World) : Prop := e = .returned (.int .i64 r.2) ∧ Led w' g r.1 ∧ Keep w.heap.size [g] w w'
theorem markL_bad {L : List Rc} {s n : Int} (h : okS s = false ∨ okN n = false) : markL L s n = (L, 1) := by
  unfold markL
  rcases h with h | h
  · rw [h]; rfl
  · rw [h, Bool.and_false]; rfl
theorem markL_at {L : List Rc} {i : Nat} {n : Int} {r : Rc} (hs : okS (i : Int) = true) (hn : okN n = true) (hr : L[i]? = some r) : markL L i n = if seenB r n then (L, 9) else (L.set i (markR r n), 0) := by
  unfold markL
  rw [hs, hn, Int.toNat_natCast, hr]
  rfl
set_option maxHeartbeats 1000000 in
theorem mark_bad (w : World) (g : Nat) (L : List Rc) (s n : Int) (h : okS s = false ∨ okN n = false) (hL : Led w g L) :
    Calls Try.prog 11 #[bptr g, .int .i64 s, .int .i64 n] w fun e w' => e = .returned (.int .i64 1) ∧ w = w' := by
  have HM := Lib.hid hL.made
  clear hL
  cases hs : okS s with
  | false =>
    have HS := Lib.hid hs
    clear hs h
    go_enter Try.func11, Try.ntmps11
    go_wp2_with fail
    refine (lok_any _ g HM.out).mono ?_
    rintro e w' ⟨rfl, rfl⟩
    go_wp2_with fail
    refine (source_b _ s false HS.out).mono ?_
    rintro e w' ⟨rfl, rfl⟩
    go_wp2_with fail
    go_ret
    exact ⟨rfl, rfl⟩
  | true =>
    have hn : okN n = false := by rcases h with h | h
                                  · rw [hs] at h; cases h
                                  · exact h
    have HS := Lib.hid hs
    have HN := Lib.hid hn
    clear hs h hn
    go_enter Try.func11, Try.ntmps11
    go_wp2_with fail
    refine (lok_any _ g HM.out).mono ?_
    rintro e w' ⟨rfl, rfl⟩
    go_wp2_with fail
    refine (source_b _ s true HS.out).mono ?_
    rintro e w' ⟨rfl, rfl⟩
    go_wp2_with fail
    refine (number_b _ n false HN.out).mono ?_
    rintro e w' ⟨rfl, rfl⟩
    go_wp2_with fail
    go_ret
    exact ⟨rfl, rfl⟩
set_option maxHeartbeats 2000000 in
theorem mark_ok (w : World) (g : Nat) (L : List Rc) (i : Nat) (n : Int) (r : Rc) (hs : okS (i : Int) = true) (hn : okN n = true) (hr : L[i]? = some r) (hL : Led w g L) :
    Calls Try.prog 11 #[bptr g, .int .i64 (i : Int), .int .i64 n] w (MarkPost w g (if seenB r n then (L, 9) else (L.set i (markR r n), 0))) := by
  have HM := Lib.hid hL.made
  obtain ⟨n0, n1⟩ := okN_iff.1 hn
  obtain ⟨s0, s1⟩ := okS_iff.1 hs
  have hrok := hL.2.2 r (List.mem_of_getElem? hr)
  obtain ⟨⟨a0, a1⟩, a2, a3⟩ := id hrok
  obtain ⟨c1, c2⟩ := hL.at1 hr
  have HS := Lib.hid hs
  have HN := Lib.hid hn
  have HR := Lib.hid hrok
  have HL := Lib.hid hL
  have HRR := Lib.hid hr
  cases hb : seenB r n with
  | true =>
    rw [if_pos rfl]
    have HB := Lib.hid hb
    clear hs hL hr hn hb hrok
    go_enter Try.func11, Try.ntmps11
    go_wp2_with fail
    refine (lok_any _ g HM.out).mono ?_
    rintro e w' ⟨rfl, rfl⟩
    go_wp2_with fail
    refine (source_b _ _ true HS.out).mono ?_
    rintro e w' ⟨rfl, rfl⟩
    go_wp2_with fail
    refine (number_b _ n true HN.out).mono ?_
    rintro e w' ⟨rfl, rfl⟩
    go_wp2_with fail
    refine (seen_b _ r n true HB.out HR.out n0 n1).mono ?_
    rintro e w' ⟨rfl, rfl⟩
    go_wp2_with fail
    go_ret
    exact ⟨rfl, HL.out.alloc _, (Keep.refl _ _ _).alloc (Nat.le_refl _) _⟩
  | false =>
    rw [if_neg (by decide)]
    have HB := Lib.hid hb
    have HMO := Lib.hid (markR_ok hrok hn hb)
    clear hs hL hr hn hb hrok
    go_enter Try.func11, Try.ntmps11
    go_wp2_with fail
    refine (lok_any _ g HM.out).mono ?_
    rintro e w' ⟨rfl, rfl⟩
    go_wp2_with fail
    refine (source_b _ _ true HS.out).mono ?_
    rintro e w' ⟨rfl, rfl⟩
    go_wp2_with fail
    refine (number_b _ n true HN.out).mono ?_
    rintro e w' ⟨rfl, rfl⟩
    go_wp2_with fail
    refine (seen_b _ r n false HB.out HR.out n0 n1).mono ?_
    rintro e w1 ⟨rfl, hw⟩
    have HL1 : Hid (Led w1 g L) := by rw [← hw]; exact HL.out.alloc _
    have K1 : Hid (Keep w.heap.size [g] w w1) := by rw [← hw]; exact (Keep.refl _ _ _).alloc (Nat.le_refl _) _
    obtain ⟨d1, d2⟩ := HL1.out.at1 HRR.out
    have f1 := HL1.out.2.1.frozen (1 + i * 2)
    have f2 := HL1.out.2.1.frozen (1 + i * 2 + 1)
    clear hw c1 c2 HL
    by_cases hlt : r.n < n
    · obtain ⟨d, hd⟩ := Int.eq_ofNat_of_zero_le (show 0 ≤ n - r.n by omega)
      have HD := Lib.hid hd
      have hwr := shl_min r.m d
      obtain ⟨M, hM⟩ : ∃ M, shlU r.m d = M := ⟨_, rfl⟩
      have hMb := shlU_bd r.m d
      rw [hM] at hwr hMb
      have HMM := Lib.hid hM
      clear hM
      go_wp2_with fail
      go_region
      go_wp2_with fail
      obtain ⟨W2, hW2⟩ : ∃ W2, W2 = (w1.setCell ⟨g, 1 + i * 2 + 1, none⟩ (.int .u64 M)).setCell ⟨g, 1 + i * 2, none⟩ (.int .i64 n) := ⟨_, rfl⟩
      have HW2 : Hid ((w1.setCell ⟨g, 1 + i * 2 + 1, none⟩ (.int .u64 M)).setCell ⟨g, 1 + i * 2, none⟩ (.int .i64 n) = W2) := hW2.symm
      have HB2 : Hid (Blk W2 g 100 (((lcells L).toArray.setIfInBounds (1 + i * 2 + 1) (.int .u64 M)).setIfInBounds (1 + i * 2) (.int .i64 n))) := by
        rw [hW2]; exact (HL1.out.2.1.set_ _ _).set_ _ _
      have K2 : Hid (Keep w.heap.size [g] w W2) := by rw [hW2]; exact K1.out.set1.set1
      have hsz := lcells_size HL1.out.1
      have c1 : W2.cell? ⟨g, 1 + i * 2, none⟩ = some (.int .i64 n) := (HB2.out.cell _).trans (by
        rw [Array.getElem?_setIfInBounds_self_of_lt (by rw [Array.size_setIfInBounds, hsz]; omega)])
      have c2 : W2.cell? ⟨g, 1 + i * 2 + 1, none⟩ = some (.int .u64 M) := (HB2.out.cell _).trans (by
        rw [Array.getElem?_setIfInBounds_ne (by omega), Array.getElem?_setIfInBounds_self_of_lt (by rw [hsz]; omega)])
      have q1 := HB2.out.frozen (1 + i * 2)
      have q2 := HB2.out.frozen (1 + i * 2 + 1)
      rw [HW2.out]
      clear hW2 d1 d2 f1 f2 hsz
      go_region
      all_goals go_wp2_with fail
      all_goals go_ret
      have hm : markR r n = ⟨n, orU M 1⟩ := by
        unfold markR
        rw [if_pos hlt, hd, Int.toNat_natCast, HMM.out]
      refine ⟨rfl, ?_, K2.out.set1.drew.drew⟩
      refine Led.put HL1.out (markR r n) HRR.out HMO.out ?_
      rw [hm]
      have h := HB2.out.set_ (1 + i * 2 + 1) (.int .u64 (bits .or .u64 M 1))
      rw [set_comm2 _ _ _ _ _ _ (by omega)] at h
      exact h
    · obtain ⟨d, hd⟩ := Int.eq_ofNat_of_zero_le (show 0 ≤ r.n - n by omega)
      have HD := Lib.hid hd
      have hd64 : d < 64 := by
        have := HB.out
        unfold seenB at this
        simp only [Bool.or_eq_false_iff, decide_eq_false_iff_not] at this
        omega
      go_wp2_with fail
      go_region
      all_goals go_wp2_with fail
      all_goals go_ret
      have hm : markR r n = ⟨r.n, orU r.m (2 ^ d)⟩ := by
        unfold markR
        rw [if_neg (by omega), hd, Int.toNat_natCast]
      have hp := pow2_bd d hd64
      have hw2 : IntKind.u64.wrap (2 ^ d) = 2 ^ d := u64_in _ hp.1 hp.2
      rw [hw2]
      refine ⟨rfl, ?_, K1.out.set1.drew⟩
      refine Led.put HL1.out (markR r n) HRR.out HMO.out ?_
      rw [hm]
      have h := HL1.out.2.1.set_ (1 + i * 2 + 1) (.int .u64 (bits .or .u64 r.m (2 ^ d)))
      have hc := (lcells_at HRR.out).1
      rw [set_same (lcells L).toArray (1 + i * 2) (.int .i64 r.n) (by rw [show 1 + i * 2 = 2 * i + 1 by omega]; simpa using hc)]
      exact h
theorem mark_any (w : World) (g : Nat) (L : List Rc) (s n : Int) (r : List Rc × Int) (hr : markL L s n = r) (hL : Led w g L) :
    Calls Try.prog 11 #[bptr g, .int .i64 s, .int .i64 n] w (MarkPost w g r) := by
  subst hr
  cases hs : okS s with
  | false =>
    rw [markL_bad (.inl hs)]
    refine (mark_bad w g L s n (.inl hs) hL).mono ?_
    rintro e w' ⟨rfl, rfl⟩
    exact ⟨rfl, hL, Keep.refl _ _ _⟩
  | true =>
    cases hn : okN n with
    | false =>
      rw [markL_bad (.inr hn)]
      refine (mark_bad w g L s n (.inr hn) hL).mono ?_
      rintro e w' ⟨rfl, rfl⟩
      exact ⟨rfl, hL, Keep.refl _ _ _⟩
    | true =>
      obtain ⟨s0, s1⟩ := okS_iff.1 hs
      obtain ⟨i, rfl⟩ := Int.eq_ofNat_of_zero_le s0
      obtain ⟨r, hr, _⟩ := hL.at_ (i := i) (by omega)
      rw [markL_at hs hn hr]
      exact mark_ok w g L i n r hs hn hr hL
/-! ### nil and zero -/
set_option maxHeartbeats 400000 in
theorem seenl_nil (w : World) (s n : Int) : Calls Try.prog 9 #[.pointer none, .int .i64 s, .int .i64 n] w fun e w' => e = .returned (.bool true) ∧ w = w' := by
  go_enter Try.func9, Try.ntmps9
  go_wp2_with fail
  refine (lok_nil _).mono ?_
  rintro e w' ⟨rfl, rfl⟩
  go_wp2_with fail
  go_ret
  exact ⟨rfl, rfl⟩
set_option maxHeartbeats 400000 in
theorem seenl_zero (w : World) (g : Nat) (s n : Int) (h0 : w.cell? ⟨g, 0, none⟩ = some (.bool false)) : Calls Try.prog 9 #[bptr g, .int .i64 s, .int .i64 n] w fun e w' => e = .returned (.bool true) ∧ w = w' := by
  have H0 := Lib.hid h0
  clear h0
  go_enter Try.func9, Try.ntmps9
  go_wp2_with fail
  refine (lok_zero _ g H0.out).mono ?_
  rintro e w' ⟨rfl, rfl⟩
  go_wp2_with fail
  go_ret
  exact ⟨rfl, rfl⟩
set_option maxHeartbeats 400000 in
theorem mark_nil (w : World) (s n : Int) : Calls Try.prog 11 #[.pointer none, .int .i64 s, .int .i64 n] w fun e w' => e = .returned (.int .i64 2) ∧ w = w' := by
  go_enter Try.func11, Try.ntmps11
  go_wp2_with fail
  refine (lok_nil _).mono ?_
  rintro e w' ⟨rfl, rfl⟩
  go_wp2_with fail
  go_ret
  exact ⟨rfl, rfl⟩
end Go.Proofs.Ytfkbcflgbjncdaa
