/- The reference's Reader: its methods by its state. -/
import Derived.Test.YtijionfhnoffcaaRefR
namespace Go.Proofs.Ytijionfhnoffcaa
set_option linter.unusedVariables false
set_option linter.unusedSimpArgs false
open Go.RowKit
set_option maxHeartbeats 1000000 in
theorem rruint_no (w : World) (g : Nat) (X : Option Addr) (L : List Int) (b : Bool) (z : Int) (h : z < 1 ∨ 8 < z ∨ (L.length : Int) < z) (hr : Rr w g X L b) :
    Calls Try.prog 39 #[bptr g, .int .i64 z] w fun e w' => e = .returned (.int .u64 0) ∧ Rr w' g none [] true ∧ Keep w.heap.size [g] w w' := by
  have HR := Lib.hid hr
  obtain ⟨Y, m, c, hm, hmc, hcm, hb, hv, hyx, _⟩ := hr
  clear hyx
  have d0 : w.cell? ⟨g, 0, none⟩ = some (.slice Y m c) := hb.cell 0
  have HV := Lib.hid hv
  have HM := Lib.hid hm
  have H := Lib.hid h
  clear h
  clear hb hv hm
  go_enter Try.func39, Try.ntmps39
  go_wp2_with fail
  refine (takeuint_no _ Y m c z (by rw [HM.out]; exact H.out)).mono ?_
  rintro e w' ⟨rfl, rfl⟩
  have HR1 := HR
  have HK1 : Hid (Keep w.heap.size [g] w w) := Keep.refl _ _ _
  go_wp2_with fail
  refine (rnext_0 _ g X L b HR1.out).mono ?_
  rintro e w2 ⟨rfl, hn, hk⟩
  have HN := Lib.hid hn
  have HK := Lib.hid (HK1.out.trans (hk.mono HK1.out.size (fun _ _ h => h)))
  clear hn hk
  go_wp2_with fail
  go_ret
  exact ⟨rfl, HN.out, HK.out⟩
set_option maxHeartbeats 1000000 in
theorem rrint_no (w : World) (g : Nat) (X : Option Addr) (L : List Int) (b : Bool) (n : Int) (hO : Oct L) (h : tkI L = (n, 0)) (hr : Rr w g X L b) :
    Calls Try.prog 40 #[bptr g] w fun e w' => e = .returned (.int .i64 0) ∧ Rr w' g none [] true ∧ Keep w.heap.size [g] w w' := by
  have HR := Lib.hid hr
  obtain ⟨Y, m, c, hm, hmc, hcm, hb, hv, hyx, _⟩ := hr
  clear hyx
  have d0 : w.cell? ⟨g, 0, none⟩ = some (.slice Y m c) := hb.cell 0
  have HV := Lib.hid hv
  have HM := Lib.hid hm
  have hn0 := tkI_none L n h
  subst hn0
  have H := Lib.hid h
  have HO := Lib.hid hO
  clear h hO
  clear hb hv hm
  go_enter Try.func40, Try.ntmps40
  go_wp2_with fail
  refine (takeint_r _ Y m c L _ HO.out HV.out hmc hcm H.out).mono ?_
  rintro e w1 ⟨rfl, hk⟩
  have HR1 := Lib.hid (HR.out.keepS hk (by simp) (by simp))
  have HK1 := Lib.hid (hk.mono (Nat.le_refl _) (S' := [g]) (fun _ _ h => by cases h))
  clear hk
  go_wp2_with fail
  refine (rnext_0 _ g X L b HR1.out).mono ?_
  rintro e w2 ⟨rfl, hn, hk⟩
  have HN := Lib.hid hn
  have HK := Lib.hid (HK1.out.trans (hk.mono HK1.out.size (fun _ _ h => h)))
  clear hn hk
  go_wp2_with fail
  go_ret
  exact ⟨rfl, HN.out, HK.out⟩
set_option maxHeartbeats 1000000 in
theorem rrcount_no (w : World) (g : Nat) (X : Option Addr) (L : List Int) (b : Bool) (most : Int) (hO : Oct L) (h : tkC L most = (0, 0)) (hr : Rr w g X L b) :
    Calls Try.prog 42 #[bptr g, .int .i64 most] w fun e w' => e = .returned (.int .i64 0) ∧ Rr w' g none [] true ∧ Keep w.heap.size [g] w w' := by
  have HR := Lib.hid hr
  obtain ⟨Y, m, c, hm, hmc, hcm, hb, hv, hyx, _⟩ := hr
  clear hyx
  have d0 : w.cell? ⟨g, 0, none⟩ = some (.slice Y m c) := hb.cell 0
  have HV := Lib.hid hv
  have HM := Lib.hid hm
  have H := Lib.hid h
  have HO := Lib.hid hO
  clear h hO
  clear hb hv hm
  go_enter Try.func42, Try.ntmps42
  go_wp2_with fail
  refine (takecount_r _ Y m c L _ _ HO.out HV.out hmc hcm H.out).mono ?_
  rintro e w1 ⟨rfl, hk⟩
  have HR1 := Lib.hid (HR.out.keepS hk (by simp) (by simp))
  have HK1 := Lib.hid (hk.mono (Nat.le_refl _) (S' := [g]) (fun _ _ h => by cases h))
  clear hk
  go_wp2_with fail
  refine (rnext_0 _ g X L b HR1.out).mono ?_
  rintro e w2 ⟨rfl, hn, hk⟩
  have HN := Lib.hid hn
  have HK := Lib.hid (HK1.out.trans (hk.mono HK1.out.size (fun _ _ h => h)))
  clear hn hk
  go_wp2_with fail
  go_ret
  exact ⟨rfl, HN.out, HK.out⟩
def BNo (w : World) (g : Nat) (e : Ending) (w' : World) : Prop := ∃ A n c, e = .returned (.slice A n c) ∧ Vw w' A n 1 (octs []) ∧ Rr w' g none [] true ∧ Keep w.heap.size [g] w w' ∧ (∀ x, x ∈ blks A → x ≠ g)
set_option maxHeartbeats 1000000 in
theorem rrblob_no (w : World) (g : Nat) (X : Option Addr) (L : List Int) (b : Bool) (most : Int) (hO : Oct L) (hL : L.length ≤ 100000000) (h : tkB L most = ([], 0)) (hr : Rr w g X L b) :
    Calls Try.prog 41 #[bptr g, .int .i64 most] w (BNo w g) := by
  have HR := Lib.hid hr
  obtain ⟨Y, m, c, hm, hmc, hcm, hb, hv, hyx, _⟩ := hr
  clear hyx
  have d0 : w.cell? ⟨g, 0, none⟩ = some (.slice Y m c) := hb.cell 0
  have HV := Lib.hid hv
  have hml : m ≤ 100000000 := by omega
  have H := Lib.hid h
  have HO := Lib.hid hO
  clear hb hv hm h hO hL
  go_enter Try.func41, Try.ntmps41
  go_wp2_with fail
  refine (takeblob_no _ Y m c L most HO.out HV.out hml hmc hcm H.out).mono ?_
  rintro e w1 ⟨rfl, hk⟩
  have HR1 := Lib.hid (HR.out.keepS hk (by simp) (by simp))
  have HK1 := Lib.hid (hk.mono (Nat.le_refl _) (S' := [g]) (fun _ _ h => by cases h))
  clear hk
  go_wp2_with fail
  refine (rnext_0 _ g X L b HR1.out).mono ?_
  rintro e w2 ⟨rfl, hn, hk⟩
  have HN := Lib.hid hn
  have HK := Lib.hid (HK1.out.trans (hk.mono HK1.out.size (fun _ _ h => h)))
  clear hn hk
  go_wp2_with fail
  go_ret
  exact ⟨none, 0, 0, rfl, Vw.nil _ _, HN.out, HK.out, by simp [blks]⟩
set_option maxHeartbeats 1000000 in
theorem rruint_yes (w : World) (g : Nat) (X : Option Addr) (L : List Int) (b : Bool) (k : Nat) (hO : Oct L) (h1 : 1 ≤ k) (h8 : k ≤ 8) (hle : k ≤ L.length) (hr : Rr w g X L b) :
    Calls Try.prog 39 #[bptr g, .int .i64 (k : Int)] w fun e w' => e = .returned (.int .u64 (beVal (L.take k))) ∧ ∃ X', Rr w' g X' (L.drop k) b ∧ Keep w.heap.size [g] w w' ∧ blks X' = blks X := by
  have HR := Lib.hid hr
  obtain ⟨Y, m, c, hm, hmc, hcm, hb, hv, hyx, _⟩ := hr
  clear hyx
  have d0 : w.cell? ⟨g, 0, none⟩ = some (.slice Y m c) := hb.cell 0
  have HV := Lib.hid hv
  have HM := Lib.hid hm
  have HKL := Lib.hid hle
  have HK0 : Hid (k ≠ 0) := (by omega : k ≠ 0)
  have HO := Lib.hid hO
  clear hO hle
  clear hb hv hm
  go_enter Try.func39, Try.ntmps39
  go_wp2_with fail
  refine (takeuint_yes _ Y m c L HO.out HV.out k h1 h8 HKL.out).mono ?_
  rintro e w' ⟨rfl, rfl⟩
  have HR1 := HR
  have HK1 : Hid (Keep w.heap.size [g] w w) := Keep.refl _ _ _
  go_wp2_with fail
  refine (rnext_k _ g _ L b k HK0.out HKL.out HR1.out).mono ?_
  rintro e w2 ⟨rfl, X', hn, hk, hx⟩
  have HN := Lib.hid hn
  have HX := Lib.hid hx
  have HK := Lib.hid (HK1.out.trans (hk.mono HK1.out.size (fun _ _ h => h)))
  clear hn hk hx
  go_wp2_with fail
  go_ret
  exact ⟨rfl, X', HN.out, HK.out, HX.out⟩
set_option maxHeartbeats 1000000 in
theorem rrint_yes (w : World) (g : Nat) (X : Option Addr) (L : List Int) (b : Bool) (n : Int) (k : Nat) (hO : Oct L) (h : tkI L = (n, k)) (hk : k ≠ 0) (hr : Rr w g X L b) :
    Calls Try.prog 40 #[bptr g] w fun e w' => e = .returned (.int .i64 n) ∧ ∃ X', Rr w' g X' (L.drop k) b ∧ Keep w.heap.size [g] w w' ∧ blks X' = blks X := by
  have HR := Lib.hid hr
  obtain ⟨Y, m, c, hm, hmc, hcm, hb, hv, hyx, _⟩ := hr
  clear hyx
  have d0 : w.cell? ⟨g, 0, none⟩ = some (.slice Y m c) := hb.cell 0
  have HV := Lib.hid hv
  have HM := Lib.hid hm
  have HKL := Lib.hid (tkI_sound L n k hO h hk).2.2.2.1
  have HK0 := Lib.hid hk
  have H := Lib.hid h
  have HO := Lib.hid hO
  clear h hO hk
  clear hb hv hm
  go_enter Try.func40, Try.ntmps40
  go_wp2_with fail
  refine (takeint_r _ Y m c L _ HO.out HV.out hmc hcm H.out).mono ?_
  rintro e w1 ⟨rfl, hk⟩
  have HR1 := Lib.hid (HR.out.keepS hk (by simp) (by simp))
  have HK1 := Lib.hid (hk.mono (Nat.le_refl _) (S' := [g]) (fun _ _ h => by cases h))
  clear hk
  go_wp2_with fail
  refine (rnext_k _ g _ L b k HK0.out HKL.out HR1.out).mono ?_
  rintro e w2 ⟨rfl, X', hn, hk, hx⟩
  have HN := Lib.hid hn
  have HX := Lib.hid hx
  have HK := Lib.hid (HK1.out.trans (hk.mono HK1.out.size (fun _ _ h => h)))
  clear hn hk hx
  go_wp2_with fail
  go_ret
  exact ⟨rfl, X', HN.out, HK.out, HX.out⟩
set_option maxHeartbeats 1000000 in
theorem rrcount_yes (w : World) (g : Nat) (X : Option Addr) (L : List Int) (b : Bool) (most n : Int) (k : Nat) (hO : Oct L) (h : tkC L most = (n, k)) (hk : k ≠ 0) (hr : Rr w g X L b) :
    Calls Try.prog 42 #[bptr g, .int .i64 most] w fun e w' => e = .returned (.int .i64 n) ∧ ∃ X', Rr w' g X' (L.drop k) b ∧ Keep w.heap.size [g] w w' ∧ blks X' = blks X := by
  have HR := Lib.hid hr
  obtain ⟨Y, m, c, hm, hmc, hcm, hb, hv, hyx, _⟩ := hr
  clear hyx
  have d0 : w.cell? ⟨g, 0, none⟩ = some (.slice Y m c) := hb.cell 0
  have HV := Lib.hid hv
  have HM := Lib.hid hm
  have HKL := Lib.hid (tkC_le hO h hk).1
  have HK0 := Lib.hid hk
  have H := Lib.hid h
  have HO := Lib.hid hO
  clear h hO hk
  clear hb hv hm
  go_enter Try.func42, Try.ntmps42
  go_wp2_with fail
  refine (takecount_r _ Y m c L _ _ HO.out HV.out hmc hcm H.out).mono ?_
  rintro e w1 ⟨rfl, hk⟩
  have HR1 := Lib.hid (HR.out.keepS hk (by simp) (by simp))
  have HK1 := Lib.hid (hk.mono (Nat.le_refl _) (S' := [g]) (fun _ _ h => by cases h))
  clear hk
  go_wp2_with fail
  refine (rnext_k _ g _ L b k HK0.out HKL.out HR1.out).mono ?_
  rintro e w2 ⟨rfl, X', hn, hk, hx⟩
  have HN := Lib.hid hn
  have HX := Lib.hid hx
  have HK := Lib.hid (HK1.out.trans (hk.mono HK1.out.size (fun _ _ h => h)))
  clear hn hk hx
  go_wp2_with fail
  go_ret
  exact ⟨rfl, X', HN.out, HK.out, HX.out⟩
theorem tkB_le {L B : List Int} {most : Int} {k : Nat} (hO : Oct L) (h : tkB L most = (B, k)) (hk : k ≠ 0) : k ≤ L.length := by
  obtain ⟨n, j, hnk⟩ : ∃ n j, tkC L most = (n, j) := ⟨_, _, rfl⟩
  unfold tkB at h
  rw [hnk] at h
  simp only at h
  by_cases hj : j = 0
  · rw [if_pos (.inl hj)] at h; cases h; exact absurd rfl hk
  · have h1 := (tkC_le hO hnk hj).1
    split at h
    · cases h; exact absurd rfl hk
    · have h2 := congrArg Prod.snd h
      simp only at h2
      omega
def BYes (w : World) (g : Nat) (X : Option Addr) (L B : List Int) (b : Bool) (e : Ending) (w' : World) : Prop :=
  ∃ X' A n c, e = .returned (.slice A n c) ∧ Vw w' A n 1 (octs B) ∧ Rr w' g X' L b ∧ Keep w.heap.size [g] w w' ∧ blks X' = blks X ∧ (∀ x, x ∈ blks A → x ≠ g)
set_option maxHeartbeats 1000000 in
theorem rrblob_yes (w : World) (g : Nat) (X : Option Addr) (L B : List Int) (b : Bool) (most : Int) (k : Nat) (hO : Oct L) (hL : L.length ≤ 100000000) (h : tkB L most = (B, k)) (hk : k ≠ 0) (hr : Rr w g X L b) :
    Calls Try.prog 41 #[bptr g, .int .i64 most] w (BYes w g X (L.drop k) B b) := by
  have HR := Lib.hid hr
  obtain ⟨Y, m, c, hm, hmc, hcm, hb, hv, hyx, hgx⟩ := hr
  obtain rfl := hyx (by have := tkB_le hO h hk; omega)
  clear hyx
  have d0 : w.cell? ⟨g, 0, none⟩ = some (.slice Y m c) := hb.cell 0
  have HV := Lib.hid hv
  have hml : m ≤ 100000000 := by omega
  have HGX := Lib.hid hgx
  have HKL := Lib.hid (tkB_le hO h hk)
  have HK0 := Lib.hid hk
  have H := Lib.hid h
  have HO := Lib.hid hO
  clear hb hv hm h hO hL hgx hk
  go_enter Try.func41, Try.ntmps41
  go_wp2_with fail
  refine (takeblob_yes _ Y m c L B most k HO.out HV.out hml hmc hcm H.out HK0.out).mono ?_
  rintro e w1 ⟨A, n, c', rfl, hvb, hk, hax⟩
  have HR1 := Lib.hid (HR.out.keepS hk (by simp) (by simp))
  have HVB := Lib.hid hvb
  have HAX := Lib.hid hax
  have HK1 := Lib.hid (hk.mono (Nat.le_refl _) (S' := [g]) (fun _ _ h => by cases h))
  clear hk hvb hax
  go_wp2_with fail
  refine (rnext_k _ g _ L b k HK0.out HKL.out HR1.out).mono ?_
  rintro e w2 ⟨rfl, X', hn, hk, hx⟩
  have HN := Lib.hid hn
  have HX := Lib.hid hx
  have HK2 := Lib.hid hk
  have HK := Lib.hid (HK1.out.trans (hk.mono HK1.out.size (fun _ _ h => h)))
  clear hn hk hx
  go_wp2_with fail
  go_ret
  have hag : ∀ x, x ∈ blks A → x ≠ g := fun x hx e => by
    rw [HAX.out] at hx
    exact HGX.out (e ▸ hx)
  exact ⟨X', A, n, c', rfl, HVB.out.keepS HK2.out (fun x hx => by simpa using hag x hx), HN.out, HK.out, HX.out, hag⟩

/-! ### by the state -/
theorem rruint_x (w : World) (g : Nat) (X : Option Addr) (s : RS) (z : Int) (hok : RSok s) (hr : RX w g X s) :
    Calls Try.prog 39 #[bptr g, .int .i64 z] w (StpX w g X (.int .u64 (stU s z).1) (stU s z).2) := by
  cases s with
  | none =>
    refine (rruint_no w g X [] true z (by simp; omega) hr).mono ?_
    rintro e w' ⟨rfl, h1, h2⟩
    exact ⟨none, rfl, h1, h2, by simp [blks]⟩
  | some L =>
    obtain ⟨hO, hL⟩ := hok L rfl
    by_cases h : z < 1 ∨ 8 < z ∨ (L.length : Int) < z
    · have e1 : stU (some L) z = (0, none) := by unfold stU; simp only; rw [if_pos h]
      rw [e1]
      refine (rruint_no w g X L false z h hr).mono ?_
      rintro e w' ⟨rfl, h1, h2⟩
      exact ⟨none, rfl, h1, h2, by simp [blks]⟩
    · obtain ⟨sz, rfl⟩ := Int.eq_ofNat_of_zero_le (show 0 ≤ z by omega)
      have e1 : stU (some L) (sz : Int) = (beVal (L.take sz), some (L.drop sz)) := by unfold stU; simp only; rw [if_neg h]; rfl
      rw [e1]
      refine (rruint_yes w g X L false sz hO (by omega) (by omega) (by omega) hr).mono ?_
      rintro e w' ⟨rfl, X', h1, h2, h3⟩
      exact ⟨X', rfl, h1, h2, by rw [h3]; exact fun x h => h⟩
theorem tkC_none {L : List Int} {most n : Int} (h : tkC L most = (n, 0)) : tkC L most = (0, 0) := by
  unfold tkC at h ⊢
  obtain ⟨n', j, hnk⟩ : ∃ n j, tkI L = (n, j) := ⟨_, _, rfl⟩
  rw [hnk] at h ⊢
  simp only at h ⊢
  split at h
  · rename_i h'; rw [if_pos h']
  · rename_i h'; cases h; exact absurd (.inl rfl) h'
theorem tkB_none {L B : List Int} {most : Int} (h : tkB L most = (B, 0)) : tkB L most = ([], 0) := by
  unfold tkB at h ⊢
  obtain ⟨n', j, hnk⟩ : ∃ n j, tkC L most = (n, j) := ⟨_, _, rfl⟩
  rw [hnk] at h ⊢
  simp only at h ⊢
  split at h
  · rename_i h'; rw [if_pos h']
  · rename_i h'
    have h2 := congrArg Prod.snd h
    simp only at h2
    exact absurd (.inl (by omega)) h'
theorem tkI_nil : tkI [] = (0, 0) := rfl
theorem tkC_nil (most : Int) : tkC [] most = (0, 0) := rfl
theorem tkB_nil (most : Int) : tkB [] most = ([], 0) := rfl
theorem oct_nil : Oct [] := fun _ h => by cases h
theorem rrint_x (w : World) (g : Nat) (X : Option Addr) (s : RS) (hok : RSok s) (hr : RX w g X s) :
    Calls Try.prog 40 #[bptr g] w (StpX w g X (.int .i64 (stI s).1) (stI s).2) := by
  cases s with
  | none =>
    refine (rrint_no w g X [] true 0 oct_nil tkI_nil hr).mono ?_
    rintro e w' ⟨rfl, h1, h2⟩
    exact ⟨none, rfl, h1, h2, by simp [blks]⟩
  | some L =>
    obtain ⟨hO, hL⟩ := hok L rfl
    obtain ⟨n, k, hnk⟩ : ∃ n k, tkI L = (n, k) := ⟨_, _, rfl⟩
    by_cases h : k = 0
    · have e1 : stI (some L) = (0, none) := by unfold stI; simp only; rw [hnk, if_pos h]
      rw [e1]
      subst h
      refine (rrint_no w g X L false n hO hnk hr).mono ?_
      rintro e w' ⟨rfl, h1, h2⟩
      exact ⟨none, rfl, h1, h2, by simp [blks]⟩
    · have e1 : stI (some L) = (n, some (L.drop k)) := by unfold stI; simp only; rw [hnk, if_neg h]
      rw [e1]
      refine (rrint_yes w g X L false n k hO hnk h hr).mono ?_
      rintro e w' ⟨rfl, X', h1, h2, h3⟩
      exact ⟨X', rfl, h1, h2, by rw [h3]; exact fun x h => h⟩
theorem rrcount_x (w : World) (g : Nat) (X : Option Addr) (s : RS) (most : Int) (hok : RSok s) (hr : RX w g X s) :
    Calls Try.prog 42 #[bptr g, .int .i64 most] w (StpX w g X (.int .i64 (stC s most).1) (stC s most).2) := by
  cases s with
  | none =>
    refine (rrcount_no w g X [] true most oct_nil (tkC_nil most) hr).mono ?_
    rintro e w' ⟨rfl, h1, h2⟩
    exact ⟨none, rfl, h1, h2, by simp [blks]⟩
  | some L =>
    obtain ⟨hO, hL⟩ := hok L rfl
    obtain ⟨n, k, hnk⟩ : ∃ n k, tkC L most = (n, k) := ⟨_, _, rfl⟩
    by_cases h : k = 0
    · have e1 : stC (some L) most = (0, none) := by unfold stC; simp only; rw [hnk, if_pos h]
      rw [e1]
      subst h
      refine (rrcount_no w g X L false most hO (tkC_none hnk) hr).mono ?_
      rintro e w' ⟨rfl, h1, h2⟩
      exact ⟨none, rfl, h1, h2, by simp [blks]⟩
    · have e1 : stC (some L) most = (n, some (L.drop k)) := by unfold stC; simp only; rw [hnk, if_neg h]
      rw [e1]
      refine (rrcount_yes w g X L false most n k hO hnk h hr).mono ?_
      rintro e w' ⟨rfl, X', h1, h2, h3⟩
      exact ⟨X', rfl, h1, h2, by rw [h3]; exact fun x h => h⟩
theorem rrblob_x (w : World) (g : Nat) (X : Option Addr) (s : RS) (most : Int) (hok : RSok s) (hr : RX w g X s) :
    Calls Try.prog 41 #[bptr g, .int .i64 most] w (StpBX w g X (stB s most).1 (stB s most).2) := by
  cases s with
  | none =>
    refine (rrblob_no w g X [] true most oct_nil (by simp) (tkB_nil most) hr).mono ?_
    rintro e w' ⟨A, n, c, rfl, h0, h1, h2, h3⟩
    exact ⟨none, A, n, c, rfl, h0, h1, h2, by simp [blks], h3⟩
  | some L =>
    obtain ⟨hO, hL⟩ := hok L rfl
    obtain ⟨B, k, hnk⟩ : ∃ B k, tkB L most = (B, k) := ⟨_, _, rfl⟩
    by_cases h : k = 0
    · have e1 : stB (some L) most = ([], none) := by unfold stB; simp only; rw [hnk, if_pos h]
      rw [e1]
      subst h
      refine (rrblob_no w g X L false most hO hL (tkB_none hnk) hr).mono ?_
      rintro e w' ⟨A, n, c, rfl, h0, h1, h2, h3⟩
      exact ⟨none, A, n, c, rfl, h0, h1, h2, by simp [blks], h3⟩
    · have e1 : stB (some L) most = (B, some (L.drop k)) := by unfold stB; simp only; rw [hnk, if_neg h]
      rw [e1]
      refine (rrblob_yes w g X L B false most k hO hL hnk h hr).mono ?_
      rintro e w' ⟨X', A, n, c, rfl, h0, h1, h2, h3, h4⟩
      exact ⟨X', A, n, c, rfl, h0, h1, h2, by rw [h3]; exact fun x h => h, h4⟩
end Go.Proofs.Ytijionfhnoffcaa
