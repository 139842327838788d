/- Both ends: Next and Take, whatever the unit. -/
import Derived.Test.YtfkbcflgbjncdaaTxAj
import Derived.Test.YtfkbcflgbjncdaaTxAk
import Derived.Test.YtfkbcflgbjncdaaTxAl
import Derived.Test.YtfkbcflgbjncdaaTxAm
namespace Go.Proofs.Ytfkbcflgbjncdaa
set_option linter.unusedVariables false
set_option linter.unusedSimpArgs false
open Go.RowKit
theorem knext_w (w : World) (p : Nat) (F : List Int) (c : Nat) (l : Ly) (K : Sk) (t T : Nat) (hT : T ≤ t) (ht : t ≤ 400) (hi : IK F c T K) (hn : F.length ≤ 300) (hph : K.ph = 0 ∨ K.ph = 2) (h : SkAt w p F c l K) : Calls Try.prog 34 #[ptr p, .int .i64 t] w (KxPost w p F c t l K) := by
  rcases Bool.eq_false_or_eq_true K.ad with ha | ha
  · exact knext_ae w p F c l K t T hT ht hi hn h ha
  rcases hph with hp | hp
  · rcases Nat.lt_or_ge t (K.tm + 10) with htt | htt
    · rcases Bool.eq_false_or_eq_true K.nd with hnd | hnd
      · exact knext_na w p F c l K t T hT ht hi hn h ha hp htt hnd (hi.nd hnd)
      · exact knext_qa w p F c l K t T hT ht hi hn h ha hp htt hnd
    · rcases Bool.eq_false_or_eq_true K.nd with hnd | hnd
      · exact knext_nb w p F c l K t T hT ht hi hn h ha hp htt hnd (hi.nd hnd)
      · rcases Bool.eq_false_or_eq_true K.fin with hf | hf
        · exact knext_nc w p F c l K t T hT ht hi hn h ha hp htt hnd hf
        · exact knext_qb w p F c l K t T hT ht hi hn h ha hp htt hnd hf
  · rcases Bool.eq_false_or_eq_true K.dd with hd | hd
    · exact knext_due w p F c l K t T hT ht hi hn h ha hp hd
    · rcases Bool.eq_false_or_eq_true K.ended with he | he
      · exact knext_ended w p F c l K t T hT ht hi hn h ha hp hd he
      · rcases Nat.lt_or_ge t (K.tm + 10) with htt | htt
        · exact knext_early w p F c l K t T hT ht hi hn h ha hp hd he htt
        · exact knext_yes w p F c l K t T hT ht hi hn h ha hp hd he htt
theorem chk_got {n : Nat} {K : Sk} : (chk n K).got = K.got ∧ (chk n K).dat = K.dat := by unfold chk; split <;> exact ⟨rfl, rfl⟩
theorem ktake_any (w : World) (p : Nat) (F : List Int) (c : Nat) (l : Ly) (K : Sk) (S : Sr) (u : Ut) (lu : Lc) (t T : Nat) (hT : T ≤ t) (ht : t ≤ 400) (hi : IK F c T K) (hx : XR S K) (hc : 8 ≤ c) (hn : F.length ≤ 300) (ho : Oct F) (hph : K.ph = 0 ∨ K.ph = 2) (hok : OkS c F.length S K (some u)) (h : SkAt w p F c l K) (hpin : PIn w (upd F u) lu) (hud : ∀ y, y ∈ blks lu.D ++ blks lu.G → y ∉ sbl p l) : Calls Try.prog 31 #[ptr p, .agg (pcs (upd F u) lu), .int .i64 t] w (KtPost w p F c t l K u) := by
  have hr : RcPre w F l p K u lu := ⟨hi.nrm, fun z hz => hi.al.inn hz, (fun z hz => by
    have h1 := hi.al.inn hz
    have h2 := hi.dat z hz
    rcases Nat.lt_or_ge z K.dat.length with h3 | h3
    · exact h3
    · rw [List.getElem?_eq_none h3, List.getElem?_eq_getElem (by omega)] at h2; cases h2), hi.dl, hn, ho, hpin, hud⟩
  have hlu : p ∉ blks lu.D ++ blks lu.G := fun hm => hud p hm (by simp [sbl])
  have hs : K.now ≤ t := Nat.le_trans hi.now hT
  have hph3 : K.ph = 0 ∨ K.ph = 1 ∨ K.ph = 2 := by omega
  have hwh : ∀ K', RecK F t K u K' → Nrm K'.got ∧ (∀ z, mem K'.got z → 0 ≤ z ∧ z < (F.length : Int)) ∧ (¬ width K'.got < F.length → K'.dat = F) ∧ (K'.ph = 0 ∨ K'.ph = 1 ∨ K'.ph = 2) := fun K' hrc => by
    obtain ⟨i2, _⟩ := half2 (by omega) hT hi hx hph hok hrc
    have g1 := i2.nrm
    have g2 := i2.al
    rw [chk_got.1] at g1 g2
    refine ⟨g1, fun z hz => g2.inn hz, fun hw => ?_, by rw [rec_ph hrc]; exact hph3⟩
    have hall := width_all g1 g2 hw
    have := dat_eq i2 (by rw [chk_got.1]; exact hall)
    rwa [chk_got.2] at this
  cases u with
  | md => exact ktake_md w p F c l K lu t hs (by omega) hph3 h hr (valid_md hn) hlu hwh
  | ef => exact ktake_ef w p F c l K lu t hs (by omega) hph3 h hr (valid_ef hn) hlu hwh
  | ad =>
    have hok : S.ph = 4 ∧ K.ph = 2 := hok
    exact ktake_ad w p F c l K lu hok.2 t hs (by omega) hph3 h hr (valid_ad F) hlu hwh
  | pc a b =>
    obtain ⟨_, k, k1, k2, k3⟩ : (∀ z : Int, (a : Int) ≤ z → z < b → ¬ mem S.wd z) ∧ ∃ k, a = c * k ∧ b = min (c * k + c) F.length ∧ c * k < F.length := hok
    have hab : a < b := by omega
    have hbn : b ≤ F.length := by omega
    exact ktake_pc w p F c l K lu a b hab hbn t hs (by omega) hph3 h hr (valid_pc hn hab hbn) hlu hwh
  | ae => exact (show False from hok).elim
  | nk m L => exact (show False from hok).elim
  | fi => exact (show False from hok).elim
theorem stake_any (w : World) (p : Nat) (F : List Int) (c : Nat) (l : Ly) (S : Sr) (K : Sk) (u : Ut) (lu : Lc) (t T : Nat) (hT : T ≤ t) (ht : t ≤ 400) (hi : IS c F.length T S) (hn : F.length ≤ 300) (hp0 : S.ph ≠ 0) (hok : OkK c F.length S K (some u)) (h : SrAt w p F c l S) (hpin : PIn w (upd F u) lu) (hx : p ∉ blks lu.D ++ blks lu.G) : Calls Try.prog 35 #[ptr p, .agg (pcs (upd F u) lu), .int .i64 t] w (TkPost w p F c t l S u) := by
  have hph := hi.ph
  cases u with
  | ae =>
    by_cases h1 : S.ph = 1
    · exact take_ae1 w p F c l S t T hT (by omega) hi hn h lu hx h1 hpin (valid_ae F)
    · exact take_ae2 w p F c l S t T hT (by omega) hi hn h lu hx (by omega) hpin (valid_ae F)
  | fi =>
    rcases hph with h1 | h1 | h1 | h1
    · exact absurd h1 hp0
    · exact take_fi1 w p F c l S t T hT (by omega) hi hn h lu hx h1 hpin (valid_fi F)
    · exact take_fi2 w p F c l S t T hT (by omega) hi hn h lu hx h1 hpin (valid_fi F)
    · exact take_fi4 w p F c l S t T hT (by omega) hi hn h lu hx h1 hpin (valid_fi F)
  | nk m L =>
    obtain ⟨o1, o2, o3, o4, o5, o6, o7, o8⟩ : Nrm L ∧ Al c F.length L ∧ (∀ z, mem L z → ¬ mem K.got z) ∧ (m = true → K.named = false) ∧ K.fin = true ∧ K.ph = 0 ∧ 1 ≤ L.length + m.toNat ∧ L.length + m.toNat ≤ 16 := hok
    have hLb : ∀ g ∈ L, 0 ≤ g.f ∧ g.t ≤ (F.length : Int) := fun g hg => by
      have hf := o1.full g hg
      have h1 := o2.inn (z := g.f) ⟨g, hg, Int.le_refl _, hf⟩
      have h2 := o2.inn (z := g.t - 1) ⟨g, hg, by omega, by omega⟩
      omega
    have hgb : ∀ g ∈ (upd F (.nk m L)).gaps, 0 ≤ g.f ∧ g.t ≤ (F.length : Int) := fun g hg => by
      simp only [upd] at hg
      rcases List.mem_append.1 hg with h1 | h1
      · cases m with
        | false => cases h1
        | true =>
          have : g = ⟨0, 0⟩ := by simpa using h1
          subst this; simp only; omega
      · exact hLb g h1
    have hgl : lu.gn ≤ 100 := by
      rw [hpin.glen]
      simp only [upd, List.length_append]
      cases m <;> simp at o8 ⊢ <;> omega
    have hval := valid_nk hn o1 (fun z hz => o2.inn hz) o7 o8
    by_cases h1 : S.ph = 1
    · exact take_nk1 w p F c l S t T hT (by omega) hi hn h lu m L (fun g hg => o1.full g hg) hx hgb hgl h1 hpin hval
    · exact take_nk2 w p F c l S t T hT (by omega) hi hn h lu m L hx hgb hgl (by omega) hpin hval
  | md => exact (show False from hok).elim
  | ef => exact (show False from hok).elim
  | ad => exact (show False from hok).elim
  | pc a b => exact (show False from hok).elim
def LostPost (w : World) (n t : Nat) (e : Ending) (w' : World) : Prop := (∃ v, e = .returned (.bool v) ∧ (n ≤ t → v = false)) ∧ w' = w
/-- whether a unit is lost -/
theorem lost_w (w : World) (U : Option Addr) (n c : Nat) (bs : List Bool) (t : Nat) (ht : t ≤ 400) (hnc : n ≤ c) (hv : Vw w U n 1 (bs.map Value.bool)) : Calls Try.prog 14 #[.slice U n c, .int .i64 t] w (LostPost w n t) := by
  have h0 : (0 : Int) ≤ (t : Int) := by omega
  have hncI : (n : Int) ≤ (c : Int) := by omega
  rcases Nat.lt_or_ge t n with h | h
  · have hI : (t : Int) < (n : Int) := by omega
    obtain ⟨b, o, u, hU, _, hu, hc⟩ := hv.at_ h
    obtain ⟨x, rfl⟩ : ∃ x, u = .bool x := by
      rw [List.getElem?_map] at hu
      cases hx : bs[t]? with
      | none => rw [hx] at hu; cases hu
      | some x => rw [hx] at hu; exact ⟨x, (Option.some.inj hu).symm⟩
    subst hU
    clear hu hv
    go_enter Try.func14, Try.ntmps14
    go_wp2_with fail
    go_ret
    exact ⟨⟨x, rfl, fun hh => by omega⟩, rfl⟩
  · have hI : ¬ (t : Int) < (n : Int) := by omega
    clear hv
    go_enter Try.func14, Try.ntmps14
    go_wp2_with fail
    go_ret
    exact ⟨⟨false, rfl, fun _ => rfl⟩, rfl⟩
end Go.Proofs.Ytfkbcflgbjncdaa
