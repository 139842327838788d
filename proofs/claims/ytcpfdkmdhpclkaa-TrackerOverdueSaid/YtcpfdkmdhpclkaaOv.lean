/- TrackerOverdue. -/
import Derived.Test.YtcpfdkmdhpclkaaOvP
namespace Go.Proofs.Ytcpfdkmdhpclkaa
set_option linter.unusedVariables false
set_option linter.unusedSimpArgs false
open Go.RowKit
theorem infoInt : (Try.prog.info? 3).map (fun i => (i.zero, i.size, i.bytes)) = some (some (.int .i64 0), 1, 8) := by kernel_rfl
/-- the tracker, a list of numbers that is being built, and one that is only read -/
structure LX (w : World) (g : Nat) (t : Tk) (L : List Int) (X : Option Addr) (m : Nat) (xs : List Value) (A : Option Addr) (n c : Nat) (B : Option Addr) (wr : World) : Prop where
  hn : n = L.length
  tr : Tr wr g B t
  sl : Sl wr 3 1 A n c (ints L)
  kp : Keep w.heap.size [] w wr
  hB : ∀ x, x ∈ blks B → w.heap.size ≤ x
  hA : ∀ x, x ∈ blks A → w.heap.size ≤ x
  vw : Vw wr X m 1 xs
  hX : ∀ x, x ∈ blks X → x < wr.heap.size ∧ x ≠ g ∧ x ∉ blks B ∧ x ∉ blks A
theorem Tr.apart {w : World} {g : Nat} {B A : Option Addr} {t : Tk} {n c : Nat} {xs : List Value} (h : Tr w g B t) (hs : Sl w 3 1 A n c xs) : g ∉ blks A ∧ ∀ x, x ∈ blks B → x ∉ blks A := by
  obtain ⟨n2, c2, _, hb, h2, _⟩ := h
  refine ⟨hs.ne_blk hb (by decide), fun x hx => ?_⟩
  rcases h2.2 with ⟨hv, _⟩ | ⟨g', cap, cur, hv, _, hg, _⟩
  · injection hv with h1; subst h1; simp [blks] at hx
  · injection hv with h1
    subst h1
    simp only [blks, List.mem_singleton] at hx
    subst hx
    exact hs.ne_blk (t := 56) hg (by decide)
section
variable {w wr w3 : World} {g : Nat} {t : Tk} {L : List Int} {X : Option Addr} {m : Nat} {xs : List Value} {A : Option Addr} {n c : Nat} {B : Option Addr}
theorem LX.app {o : Obj} {v : Int} {A2 : Option Addr} {c2 : Nat} (h : LX w g t L X m xs A n c B wr)
    (hs3 : Sl w3 3 1 A2 (n + 1) c2 (ints L ++ (#[.int .i64 v] : Array Value).toList)) (hk3 : Keep (wr.alloc o).heap.size (blks A) (wr.alloc o) w3) (hb3 : ∀ g, g ∈ blks A2 → g ∈ blks A ∨ g = (wr.alloc o).heap.size) :
    LX w g t (L ++ [v]) X m xs A2 (n + 1) c2 B w3 := by
  have ka : Keep wr.heap.size [] wr (wr.alloc o) := (Keep.refl _ _ _).alloc (Nat.le_refl _) o
  have hap := h.tr.apart h.sl
  have hsz := ka.size
  have hsz2 := h.kp.size
  refine ⟨by simp [h.hn], (h.tr.keep0 ka).keepS hk3 hap.1 hap.2, ?_, ?_, h.hB, ?_, (h.vw.keep0 ka).keepS hk3 (fun x hx => (h.hX x hx).2.2.2), ?_⟩
  · have e : ints (L ++ [v]) = ints L ++ (#[.int .i64 v] : Array Value).toList := by simp [ints]
    rw [e]
    exact hs3
  · exact (h.kp.trans (ka.mono h.kp.size (by simp))).trans (hk3.mono (Nat.le_trans hsz2 hsz) (fun x hx hm => absurd (h.hA x hm) (by omega)))
  · intro x hx
    rcases hb3 x hx with h1 | h1
    · exact h.hA x h1
    · rw [h1]; omega
  · intro x hx
    obtain ⟨q1, q2, q3, q4⟩ := h.hX x hx
    refine ⟨Nat.lt_of_lt_of_le q1 (Nat.le_trans hsz hk3.size), q2, q3, fun hm => ?_⟩
    rcases hb3 x hm with h1 | h1
    · exact q4 h1
    · omega
theorem LX.turn {k : Int} {t' : Tk} {e : Ending} {B' : Option Addr} (h : LX w g t L X m xs A n c B wr) (hg : w.heap.size ≤ g) (ht : Tr w3 g B' t') (hk : Keep wr.heap.size (g :: blks B) wr w3) (hb : ∀ x, x ∈ blks B' → x ∈ blks B ∨ wr.heap.size ≤ x) :
    LX w g t' L X m xs A n c B' w3 := by
  have hap := h.tr.apart h.sl
  have hsz2 := h.kp.size
  have hA' : ∀ x, x ∈ blks A → x ∉ g :: blks B := fun x hx hm => by
    rcases List.mem_cons.1 hm with rfl | h1
    · exact hap.1 hx
    · exact hap.2 x h1 hx
  refine ⟨h.hn, ht, h.sl.keepS hk hA', ?_, ?_, h.hA, h.vw.keepS hk (fun x hx hm => ?_), ?_⟩
  · exact h.kp.trans (hk.mono h.kp.size (fun x hx hm => by
      rcases List.mem_cons.1 hm with rfl | h1
      · omega
      · exact absurd (h.hB x h1) (by omega)))
  · intro x hx
    rcases hb x hx with h1 | h1
    · exact h.hB x h1
    · omega
  · obtain ⟨q1, q2, q3, q4⟩ := h.hX x hx
    rcases List.mem_cons.1 hm with rfl | h1
    · exact q2 rfl
    · exact q3 h1
  · intro x hx
    obtain ⟨q1, q2, q3, q4⟩ := h.hX x hx
    refine ⟨Nat.lt_of_lt_of_le q1 hk.size, q2, fun hm => ?_, q4⟩
    rcases hb x hm with h1 | h1
    · exact q3 h1
    · omega
end
set_option maxRecDepth 100000 in
set_option maxHeartbeats 16000000 in
theorem overdue_law (w : World) (to : Int) (X1 : Option Addr) (n1 c1 : Nat) (L1 : List Int) (X2 : Option Addr) (n2 c2 : Nat) (L2 : List Int)
    (hO1 : Oct L1) (h1c : n1 ≤ c1) (h1m : c1 ≤ maxLen) (hv1 : Vw w X1 n1 1 (octs L1)) (hO2 : Oct L2) (h2c : n2 ≤ c2) (h2m : c2 ≤ maxLen) (hv2 : Vw w X2 n2 1 (octs L2)) :
    Calls Try.prog 3 #[.int .i64 to, .slice X1 n1 c1, .slice X2 n2 c2] w fun e w' => e = .returned (.bool true) ∧ Keep w.heap.size [] w w' := by
  have hc1 : (c1 : Int) ≤ 9223372036854775807 := by unfold maxLen at h1m; omega
  have hn1 : (n1 : Int) ≤ (c1 : Int) := by omega
  have hc2 : (c2 : Int) ≤ 9223372036854775807 := by unfold maxLen at h2m; omega
  have hn2 : (n2 : Int) ≤ (c2 : Int) := by omega
  have HV1 := Lib.hid hv1
  have HV2 := Lib.hid hv2
  have HO1 := Lib.hid hO1
  have HO2 := Lib.hid hO2
  clear hv1 hv2 hO1 hO2 h1c h1m h2c h2m
  by_cases hb : to < 1 ∨ 5000 < to ∨ (60 : Int) < (n1 : Int) ∨ (60 : Int) < (n2 : Int)
  · by_cases q1 : to < 1
    · go_enter Try.func3, Try.ntmps3
      go_wp2_with fail
      refine (alive_any _).mono ?_
      rintro e w1 ⟨rfl, hk1⟩
      go_wp2_with fail
      go_ret
      exact ⟨rfl, hk1⟩
    by_cases q2 : 5000 < to
    · go_enter Try.func3, Try.ntmps3
      go_wp2_with fail
      refine (alive_any _).mono ?_
      rintro e w1 ⟨rfl, hk1⟩
      go_wp2_with fail
      go_ret
      exact ⟨rfl, hk1⟩
    by_cases q3 : (60 : Int) < (n1 : Int)
    · go_enter Try.func3, Try.ntmps3
      go_wp2_with fail
      refine (alive_any _).mono ?_
      rintro e w1 ⟨rfl, hk1⟩
      go_wp2_with fail
      go_ret
      exact ⟨rfl, hk1⟩
    have q4 : (60 : Int) < (n2 : Int) := by omega
    go_enter Try.func3, Try.ntmps3
    go_wp2_with fail
    refine (alive_any _).mono ?_
    rintro e w1 ⟨rfl, hk1⟩
    go_wp2_with fail
    go_ret
    exact ⟨rfl, hk1⟩
  have ht1 : 1 ≤ to := by omega
  have ht2 : to ≤ 5000 := by omega
  have hm1 : (n1 : Int) ≤ 60 := by omega
  have hm2 : (n2 : Int) ≤ 60 := by omega
  clear hb
  have hcl : clampT to = to := by unfold clampT; omega
  have HCL := Lib.hid hcl
  clear hcl
  obtain ⟨i0, hi0, hz0, hz1, hz2⟩ := info_parts infoInt
  obtain ⟨i2, hi2, hy0, hy1, hy2⟩ := info_parts infoP2
  go_enter Try.func3, Try.ntmps3
  go_wp2_with fail
  refine (tnew_any _ to).mono ?_
  rintro e w1 ⟨g, rfl, hg, htr, hk1⟩
  have HG : Hid (w.heap.size ≤ g) := Lib.hid (by omega)
  have S1 : Hid (LX w g ⟨pre L1 0, to, DD L1 (fun _ => 0) 0⟩ (ats L1 0) none 0 [] none 0 0 none w1) :=
    Lib.hid ⟨rfl, by rw [pre_zero, ← HCL.out]; exact htr, Sl.nil _ _ _, hk1, by simp [blks], by simp [blks], Vw.nil _ _, by simp [blks]⟩
  clear htr hk1 hg
  go_wp2_with fail
  go_loopw [8, 9, 10] (fun u a i wr => ∃ k : Nat, k ≤ n1 ∧ i = .int .i64 k ∧ u = .int .i64 (pre L1 k) ∧ ∃ A n c B, a = .slice A n c ∧ LX w g ⟨pre L1 k, to, DD L1 (fun _ => 0) k⟩ (ats L1 k) none 0 [] A n c B wr) (fun _ _ i _ => n1 - (intOf i).toNat)
  case atStart => exact ⟨0, Nat.zero_le _, rfl, by rw [pre_zero], none, 0, 0, none, rfl, S1.out⟩
  case round =>
    obtain ⟨k, hk, rfl, rfl, A, n, c, B, rfl, hlx⟩ := hrel
    have HL := Lib.hid hlx
    clear hlx S1
    have hpb := pre_bd HO1.out k
    obtain ⟨hp0, hp1⟩ := hpb
    by_cases hlt : k < n1
    · obtain ⟨b, o, u, rfl, hb, hu, hc⟩ := HV1.out.at_ hlt
      obtain ⟨x, hx, rfl⟩ : ∃ x, L1[k]? = some x ∧ u = .int .u8 x := by
        rw [octs, List.getElem?_map] at hu
        cases h : L1[k]? with
        | none => rw [h] at hu; simp at hu
        | some x => rw [h] at hu; exact ⟨x, rfl, (Option.some.inj hu).symm⟩
      have hxo := HO1.out x (List.mem_of_getElem? hx)
      obtain ⟨hx0, hx1⟩ := hxo
      have e0 : wr.cell? ⟨b, o + k, none⟩ = some (.int .u8 x) := (HL.out.kp.cell hb (by simp)).trans hc
      have hps := pre_succ hx
      have hist := issue_step HO1.out hx (by omega) to
      rw [hps] at hist
      have HPS := Lib.hid hps
      have HIS := Lib.hid hist
      have hnk : n = k := by rw [HL.out.hn, ats_len]
      subst hnk
      have hkn : (n : Int) < (n1 : Int) := by omega
      clear hu hc hx hps hist hb
      go_wp2_with (first
        | (at_builtin
           refine wpList_app1 _ rfl (.tmp 48) (.tmp 50) 26 rfl 3 i0 _ 1 8 Try.underlying26 hi0 hz0 hz1 hz2 rfl (by omega) A n c (ints (ats L1 n)) rfl (HL.out.sl.alloc _) _ _ _ rfl (Blk.new _ _ _) rfl rfl (by omega) (by omega) ?_
           intro A2 c2 w3 hs3 hk3 hb3
           have HL3 := Lib.hid (HL.out.app hs3 hk3 hb3)
           clear hs3 hk3 hb3))
      refine (issue_any _ g B ⟨pre L1 n, to, DD L1 (fun _ => 0) n⟩ ⟨pre L1 n + x, to, DD L1 (fun _ => 0) (n + 1)⟩ 1 n (pre L1 n + x) 0 HIS.out (by rw [DD_len]; omega) HL3.out.tr).mono ?_
      rintro e w4 ⟨rfl, B4, ht4, hk4, hb4⟩
      have HL4 : Hid (LX w g ⟨pre L1 (n + 1), to, DD L1 (fun _ => 0) (n + 1)⟩ (ats L1 (n + 1)) none 0 [] A2 (n + 1) c2 B4 w4) := by
        have := HL3.out.turn (k := 0) (e := .returned (.int .i64 0)) HG.out ht4 hk4 hb4
        rw [← HPS.out, ← ats_succ] at this
        exact Lib.hid this
      clear ht4 hk4 hb4
      go_wp2_with fail
      go_roundw
      case rel => exact ⟨n + 1, by omega, by go_num, by rw [HPS.out], A2, n + 1, c2, B4, rfl, HL4.out⟩
      case measure => simp [intOf]; omega
    · obtain rfl : k = n1 := by omega
      have hnk : n = k := by rw [HL.out.hn, ats_len]
      subst hnk
      have S2 : Hid (LX w g ⟨pre L1 n, to, DD L1 (stg (L2.take 0)) n⟩ (L2.take 0) A n (ints (ats L1 n)) none 0 0 B wr) := by
        have hap := HL.out.tr.apart HL.out.sl
        refine Lib.hid ⟨rfl, ?_, Sl.nil _ _ _, HL.out.kp, HL.out.hB, by simp [blks], HL.out.sl.vw (by decide), fun x hx => ⟨HL.out.sl.blk hx, fun e => hap.1 (e ▸ hx), fun hm => hap.2 x hm hx, by simp [blks]⟩⟩
        rw [← DD_congr L1 (fun _ => 0) (stg (L2.take 0)) n (fun j _ => rfl)]
        exact HL.out.tr
      have hcap := HL.out.sl.cap
      have hac1 : (n : Int) ≤ (c : Int) := by omega
      have hac2 : (c : Int) ≤ 9223372036854775807 := by have := hcap.2; unfold maxLen at this; omega
      clear HV1 HL hcap
      go_wp2_with fail
      go_loopw [11, 12] (fun a i wr' => ∃ q : Nat, q ≤ n2 ∧ i = .int .i64 q ∧ ∃ A' n' c' B', a = .slice A' n' c' ∧ LX w g ⟨pre L1 n, to, DD L1 (stg (L2.take q)) n⟩ (L2.take q) A n (ints (ats L1 n)) A' n' c' B' wr') (fun _ i _ => n2 - (intOf i).toNat)
      case atStart => exact ⟨0, Nat.zero_le _, rfl, none, 0, 0, B, rfl, S2.out⟩
      case round =>
        obtain ⟨q, hq, rfl, A', n', c', B', rfl, hlx⟩ := hrel
        have HL := Lib.hid hlx
        clear hlx S2
        by_cases hlt : q < n2
        · obtain ⟨b, o, u, rfl, hb, hu, hc⟩ := HV2.out.at_ hlt
          obtain ⟨x, hx, rfl⟩ : ∃ x, L2[q]? = some x ∧ u = .int .u8 x := by
            rw [octs, List.getElem?_map] at hu
            cases h : L2[q]? with
            | none => rw [h] at hu; simp at hu
            | some x => rw [h] at hu; exact ⟨x, rfl, (Option.some.inj hu).symm⟩
          have hxo := HO2.out x (List.mem_of_getElem? hx)
          obtain ⟨hx0, hx1⟩ := hxo
          have e0 : wr.cell? ⟨b, o + q, none⟩ = some (.int .u8 x) := (HL.out.kp.cell hb (by simp)).trans hc
          obtain ⟨k1, k2, k3, t1, t2, h1, h2, h3⟩ := three L1 (L2.take q) n (pre L1 n) to x ⟨hx0, hx1⟩
          have H1 := Lib.hid h1
          have H2 := Lib.hid h2
          have H3 := Lib.hid h3
          have hts : L2.take (q + 1) = L2.take q ++ [x] := by rw [List.take_add_one, hx]; rfl
          have HTS := Lib.hid hts
          have hnq : n' = q := by rw [HL.out.hn, List.length_take]; have := (List.getElem?_eq_some_iff.1 hx).1; omega
          subst hnq
          have hkn : (n' : Int) < (n2 : Int) := by omega
          clear hu hc hx hb h1 h2 h3 hts
          go_wp2_with fail
          refine (take_any _ g B' _ t1 ⟨1, x, 1, 0⟩ (pre L1 n) k1 H1.out HL.out.tr).mono ?_
          rintro e w4 ⟨rfl, B4, ht4, hk4, hb4⟩
          have HL4 := Lib.hid (HL.out.turn (k := 0) (e := .returned (.int .i64 0)) HG.out ht4 hk4 hb4)
          clear ht4 hk4 hb4 HL e0
          go_wp2_with fail
          refine (take_any _ g B4 _ t2 ⟨1, x, 2, 0⟩ (pre L1 n) k2 H2.out HL4.out.tr).mono ?_
          rintro e w5 ⟨rfl, B5, ht5, hk5, hb5⟩
          have HL5 := Lib.hid (HL4.out.turn (k := 0) (e := .returned (.int .i64 0)) HG.out ht5 hk5 hb5)
          clear ht5 hk5 hb5 HL4
          go_wp2_with fail
          refine (take_any _ g B5 _ _ ⟨1, x, 3, 0⟩ (pre L1 n) k3 H3.out HL5.out.tr).mono ?_
          rintro e w6 ⟨rfl, B6, ht6, hk6, hb6⟩
          have HL6 := Lib.hid (HL5.out.turn (k := 0) (e := .returned (.int .i64 0)) HG.out ht6 hk6 hb6)
          clear ht6 hk6 hb6 HL5
          go_wp2_with (first
            | (at_builtin
               refine wpList_app1 _ rfl (.tmp 83) (.tmp 85) 26 rfl 3 i0 _ 1 8 Try.underlying26 hi0 hz0 hz1 hz2 rfl (by omega) A' n' c' (ints (L2.take n')) rfl (HL6.out.sl.alloc _) _ _ _ rfl (Blk.new _ _ _) rfl rfl (by omega) (by omega) ?_
               intro A2 c7 w7 hs7 hk7 hb7
               have HL7 : Hid (LX w g ⟨pre L1 n, to, DD L1 (stg (L2.take (n' + 1))) n⟩ (L2.take (n' + 1)) A n (ints (ats L1 n)) A2 (n' + 1) c7 B6 w7) := by
                 have := HL6.out.app hs7 hk7 hb7
                 rw [← HTS.out] at this
                 exact Lib.hid this
               clear hs7 hk7 hb7))
          go_roundw
          case rel => exact ⟨n' + 1, by omega, by go_num, A2, n' + 1, c7, B6, rfl, HL7.out⟩
          case measure => simp [intOf]; omega
        · obtain rfl : q = n2 := by omega
          clear HV2
          obtain ⟨E, hE⟩ : ∃ E, L2.take q = E := ⟨_, rfl⟩
          rw [hE] at HL
          have hdiv : 0 ≤ to.tdiv 2 ∧ to.tdiv 2 ≤ 2500 := by rw [Int.tdiv_eq_ediv_of_nonneg (by omega)]; omega
          obtain ⟨hd0, hd1⟩ := hdiv
          go_wp2_with fail
          obtain ⟨w2, rfl⟩ : ∃ x, x = wr := ⟨_, rfl⟩
          have hecap := HL.out.sl.cap
          obtain ⟨hec1, hec2⟩ := hecap
          have HEC := Lib.hid (And.intro hec1 hec2)
          clear hec1 hec2 hE
          obtain ⟨nw, hnw⟩ : ∃ nw, pre L1 n + to.tdiv 2 = nw := ⟨_, rfl⟩
          have HNW : Hid (pre L1 n ≤ nw ∧ nw ≤ 1000000) := Lib.hid (by omega)
          have hnw0 : 0 ≤ nw ∧ nw ≤ 20000 := by omega
          obtain ⟨hnw1, hnw2⟩ := hnw0
          rw [hnw]
          clear hnw hd0 hd1
          go_loopw [14, 15] (fun a i wr => ∃ j : Nat, j ≤ n ∧ i = .int .i64 j ∧ ∃ P np cp, a = .slice P np cp ∧ np = (wantL L1 E nw to j).length ∧ Sl wr 34 2 P np cp (pcells (wantL L1 E nw to j)) ∧ Keep w2.heap.size [] w2 wr ∧ ∀ x, x ∈ blks P → w2.heap.size ≤ x) (fun _ i _ => n - (intOf i).toNat)
          case atStart => exact ⟨0, Nat.zero_le _, rfl, none, 0, 0, rfl, rfl, Sl.nil _ _ _, Keep.refl _ _ _, by simp [blks]⟩
          case round =>
            obtain ⟨j, hj, rfl, P, np, cp, rfl, hnp, hsl, hkq, hbq⟩ := hrel
            have HNP := Lib.hid hnp
            have HSL := Lib.hid hsl
            have HKQ := Lib.hid hkq
            have HBQ := Lib.hid hbq
            clear hnp hsl hkq hbq
            by_cases hlt : j < n
            · obtain ⟨b, o, u, rfl, hb, hu, hc⟩ := HL.out.vw.at_ hlt
              have hjn : (j : Int) < (n : Int) := by omega
              obtain ⟨y, hy⟩ : ∃ y, pre L1 (j + 1) = y := ⟨_, rfl⟩
              have hyb := pre_bd HO1.out (j + 1)
              have e0 : wr.cell? ⟨b, o + j, none⟩ = some (.int .i64 y) := by
                rw [HKQ.out.cell hb (by simp), hc, ← hu, ints, List.getElem?_map, ats_at _ _ _ hlt, hy]; rfl
              rw [hy] at hyb
              obtain ⟨hyb1, hyb2⟩ := hyb
              have HY := Lib.hid hy
              have HE : Hid (Vw wr A' n' 1 (ints E)) := Lib.hid ((HL.out.sl.vw (by decide)).keep0 HKQ.out)
              have hwl := want_le L1 E nw to j
              have hnp1 : np + 1 ≤ 1000 := by have := HNP.out; omega
              clear hu hc hy hb hwl
              cases hha : hasP E (j : Int) with
              | true =>
                have HHA := Lib.hid hha
                have hdue : due L1 E nw to j = false := by unfold due; rw [hha]; rfl
                have HDU := Lib.hid hdue
                clear hha hdue
                go_wp2_with fail
                refine (has_any _ A' n' c' E j true HHA.out HL.out.hn HEC.out.1 HEC.out.2 HE.out).mono ?_
                rintro e w4 ⟨rfl, rfl⟩
                go_wp2_with fail
                go_roundw
                case rel => exact ⟨j + 1, by omega, by go_num, P, np, cp, rfl, by rw [want_no HDU.out]; exact HNP.out, by rw [want_no HDU.out]; exact HSL.out, HKQ.out, HBQ.out⟩
                case measure => simp [intOf]; omega
              | false =>
                have HHA := Lib.hid hha
                by_cases hle : to ≤ nw - y
                · have hdue : due L1 E nw to j = true := by unfold due; rw [hha, HY.out]; simp [hle]
                  have HDU := Lib.hid hdue
                  clear hha hdue
                  go_wp2_with fail
                  refine (has_any _ A' n' c' E j false HHA.out HL.out.hn HEC.out.1 HEC.out.2 HE.out).mono ?_
                  rintro e w4 ⟨rfl, rfl⟩
                  go_wp2_with (first
                    | (at_builtin
                       refine wpList_app1 _ rfl (.tmp 111) (.tmp 114) 32 rfl 34 i2 _ 2 16 Try.underlying32 hi2 hy0 hy1 hy2 rfl (by omega) P np cp (pcells (wantL L1 E nw to j)) rfl (HSL.out.alloc _) _ _ _ rfl (Blk.new _ _ _) rfl rfl (by omega) (by omega) ?_
                       intro P2 cp2 w7 hs7 hk7 hb7
                       have ka : Keep wr.heap.size [] wr (wr.alloc (.cells #[.int .i64 1, .int .i64 j] 34)) := (Keep.refl _ _ _).alloc (Nat.le_refl _) _
                       have k7 : Hid (Keep w2.heap.size [] w2 w7) := Lib.hid ((HKQ.out.trans (ka.mono HKQ.out.size (by simp))).trans (hk7.mono (Nat.le_trans HKQ.out.size ka.size) (fun x hx hm => absurd (HBQ.out x hm) (by omega))))
                       have s7 : Hid (Sl w7 34 2 P2 (np + 1) cp2 (pcells (wantL L1 E nw to (j + 1)))) := Lib.hid (by
                         have e : pcells (wantL L1 E nw to (j + 1)) = pcells (wantL L1 E nw to j) ++ (#[.int .i64 1, .int .i64 j] : Array Value).toList := by rw [want_yes HDU.out]; simp [pcells]
                         rw [e]; exact hs7)
                       have b7 : Hid (∀ x, x ∈ blks P2 → w2.heap.size ≤ x) := Lib.hid (fun x hx => by
                         rcases hb7 x hx with h1 | h1
                         · exact HBQ.out x h1
                         · rw [h1]; exact Nat.le_trans HKQ.out.size ka.size)
                       clear hs7 hk7 hb7 ka))
                  go_roundw
                  case rel => exact ⟨j + 1, by omega, by go_num, P2, np + 1, cp2, rfl, by rw [want_yes HDU.out, List.length_append, HNP.out]; rfl, s7.out, k7.out, b7.out⟩
                  case measure => simp [intOf]; omega
                · have hdue : due L1 E nw to j = false := by unfold due; rw [hha, HY.out]; simp [hle]
                  have HDU := Lib.hid hdue
                  clear hha hdue
                  go_wp2_with fail
                  refine (has_any _ A' n' c' E j false HHA.out HL.out.hn HEC.out.1 HEC.out.2 HE.out).mono ?_
                  rintro e w4 ⟨rfl, rfl⟩
                  go_wp2_with fail
                  go_roundw
                  case rel => exact ⟨j + 1, by omega, by go_num, P, np, cp, rfl, by rw [want_no HDU.out]; exact HNP.out, by rw [want_no HDU.out]; exact HSL.out, HKQ.out, HBQ.out⟩
                  case measure => simp [intOf]; omega
            · obtain rfl : j = n := by omega
              have HT : Hid (Tr wr g B' ⟨pre L1 j, to, DD L1 (stg E) j⟩) := Lib.hid (HL.out.tr.keep0 HKQ.out)
              have HK : Hid (Keep w.heap.size [] w wr) := Lib.hid (HL.out.kp.chain0 (Nat.le_refl _) HKQ.out)
              have hcap := HSL.out.cap
              have hpc1 : (np : Int) ≤ (cp : Int) := by omega
              have hpc2 : (cp : Int) ≤ 9223372036854775807 := by have := hcap.2; unfold maxLen at this; omega
              have HPC := Lib.hid hcap
              clear hcap HL HBQ
              go_wp2_with fail
              refine (overdue_any _ g B' ⟨pre L1 j, to, DD L1 (stg E) j⟩ nw (wantL L1 E nw to j) (by exact over_want L1 E (pre L1 j) nw to j HNW.out) (by exact HT.out)).mono ?_
              rintro e w5 ⟨u5, rfl, A5, n5, c5, rfl, hn5, hs5, ht5, hk5, hb5⟩
              obtain rfl : n5 = np := hn5.trans HNP.out.symm
              have hpg : ∀ x, x ∈ blks P → x ∉ [g] := fun x hx hm => by
                obtain ⟨_, _, _, hbg, _⟩ := HT.out
                exact HSL.out.ne_blk hbg (by decide) ((List.mem_singleton.1 hm) ▸ hx)
              have HSP := Lib.hid ((HSL.out.keepS hk5 hpg).vw (by decide))
              have HS5 := Lib.hid hs5
              have K5 : Hid (Keep w.heap.size [] w w5) := Lib.hid (HK.out.chain1 (Nat.le_refl _) hk5 HG.out)
              clear hs5 ht5 hk5 hb5 hn5 hpg
              go_wp2_with fail
              refine (pairs_eq _ A5 P n5 c5 cp (wantL L1 E nw to j) HNP.out HS5.out.cap.1 HS5.out.cap.2 HPC.out.1 HPC.out.2 (HS5.out.vw (by decide)) HSP.out).mono ?_
              rintro e w6 ⟨rfl, hk6⟩
              have K6 : Hid (Keep w.heap.size [] w w6) := Lib.hid (K5.out.chain0 (Nat.le_refl _) hk6)
              clear hk6
              go_wp2_with fail
              refine (alive_any _).mono ?_
              rintro e w7 ⟨rfl, hk7⟩
              go_wp2_with fail
              go_ret
              exact ⟨rfl, K6.out.chain0 (Nat.le_refl _) hk7⟩
end Go.Proofs.Ytcpfdkmdhpclkaa
