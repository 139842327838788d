/- TrackerFollows. -/
import Derived.Test.YtcpfdkmdhpclkaaWalkI
namespace Go.Proofs.Ytcpfdkmdhpclkaa
set_option linter.unusedVariables false
set_option linter.unusedSimpArgs false
open Go.RowKit
def At4 (w : World) (b o : Nat) (a : Ak) : Prop := w.cell? ⟨b, o, none⟩ = some (.int .i64 a.src) ∧ w.cell? ⟨b, o + 1, none⟩ = some (.int .i64 a.num) ∧ w.cell? ⟨b, o + 2, none⟩ = some (.int .i64 a.stg) ∧ w.cell? ⟨b, o + 3, none⟩ = some (.int .i64 a.cod)
def Acks (w : World) (X : Option Addr) (n : Nat) (l : List Ak) : Prop := n = l.length ∧ (0 < n → ∃ b o, X = some ⟨b, o, none⟩ ∧ b < w.heap.size ∧ ∀ j u, l[j]? = some u → At4 w b (o + j * 4) u)
theorem step_bad (nw st c k : Int) (y : Ak) (h1 : y.src = 1) (h2 : y.num = 3) (h : y.valid = false) : takeP ⟨nw, 5, [⟨1, 3, 0, st, c⟩]⟩ y k = (1, ⟨adv nw k, 5, [⟨1, 3, 0, st, c⟩]⟩) := by
  unfold takeP; rw [if_neg (by simp [h])]
theorem step_no (nw st c k : Int) (y : Ak) (h1 : y.src = 1) (h2 : y.num = 3) (h : y.valid = true) (hf : follows st y.stg = false) : takeP ⟨nw, 5, [⟨1, 3, 0, st, c⟩]⟩ y k = (12, ⟨adv nw k, 5, [⟨1, 3, 0, st, c⟩]⟩) := by
  unfold takeP; rw [if_pos h, h1, h2]
  have : findI [(⟨1, 3, 0, st, c⟩ : Is)] 1 3 = some 0 := by simp [findI]
  simp only [this]
  simp [hf]
theorem step_yes (nw st c k s' c' : Int) (y : Ak) (h1 : y.src = 1) (h2 : y.num = 3) (h : y.valid = true) (hf : follows st y.stg = true) (h3 : y.stg = s') (h4 : y.cod = c') : takeP ⟨nw, 5, [⟨1, 3, 0, st, c⟩]⟩ y k = (0, ⟨adv nw k, 5, [⟨1, 3, 0, s', c'⟩]⟩) := by
  subst h3 h4
  unfold takeP; rw [if_pos h, h1, h2]
  have : findI [(⟨1, 3, 0, st, c⟩ : Is)] 1 3 = some 0 := by simp [findI]
  simp only [this]
  simp [hf]
theorem stage_one (nw st c : Int) : stageP ⟨nw, 5, [⟨1, 3, 0, st, c⟩]⟩ 1 3 = st := by
  have : findI [(⟨1, 3, 0, st, c⟩ : Is)] 1 3 = some 0 := by simp [findI]
  unfold stageP; simp only [this]; rfl
theorem open_fin (st c : Int) (h : final st = true) : openP [⟨1, 3, 0, st, c⟩] = 0 := by simp [openP, h]
theorem open_not (st c : Int) (h : final st = false) : openP [⟨1, 3, 0, st, c⟩] = 1 := by simp [openP, h]
/-- the tracker of the law -/
def FolT (w : World) (g : Nat) (st : Int) (wr : World) : Prop := ∃ A nw c, Tr wr g A ⟨nw, 5, [⟨1, 3, 0, st, c⟩]⟩ ∧ Keep w.heap.size [] w wr ∧ ∀ x, x ∈ blks A → w.heap.size ≤ x
set_option maxRecDepth 100000 in
set_option maxHeartbeats 16000000 in
theorem follows_law (w : World) (X : Option Addr) (n c : Nat) (l : List Ak) (hnc : n ≤ c) (hcm : c ≤ maxLen) (hv : Acks w X n l) :
    Calls Try.prog 4 #[.slice X n c] w fun e w' => e = .returned (.bool true) ∧ Keep w.heap.size [] w w' := by
  have hcm' : (c : Int) ≤ 9223372036854775807 := by unfold maxLen at hcm; omega
  have hnc' : (n : Int) ≤ (c : Int) := by omega
  have HV := Lib.hid hv
  clear hv hnc hcm
  by_cases h30 : 30 < n
  · have h30' : (30 : Int) < (n : Int) := by omega
    go_enter Try.func4, Try.ntmps4
    go_wp2_with fail
    refine (alive_any _).mono ?_
    rintro e w1 ⟨rfl, hk1⟩
    go_wp2_with fail
    go_ret
    exact ⟨rfl, hk1⟩
  have h30' : (n : Int) ≤ 30 := by omega
  go_enter Try.func4, Try.ntmps4
  go_wp2_with fail
  refine (tnew_any _ 5).mono ?_
  rintro e w1 ⟨g, rfl, hg, ht1, hk1⟩
  have K1 := Lib.hid hk1
  have T1 := Lib.hid ht1
  have HG : Hid (w.heap.size ≤ g) := Lib.hid (by omega)
  clear hk1 ht1 hg
  go_wp2_with fail
  refine (issue_any _ g none ⟨0, clampT 5, []⟩ ⟨0, 5, [⟨1, 3, 0, 0, 0⟩]⟩ 1 3 0 0 (by decide) (by decide) T1.out).mono ?_
  rintro e w2 ⟨rfl, A2, ht2, hk2, hb2⟩
  have F2 : Hid (FolT w g 0 w2) := Lib.hid ⟨A2, 0, 0, ht2, K1.out.chain1 (Nat.le_refl _) (by simpa [blks] using hk2) HG.out, fun x hx => by have := hb2 x hx; have := K1.out.size; simp [blks] at *; omega⟩
  clear ht2 hk2 hb2
  go_wp2_with fail
  go_loopw [5, 6] (fun u i wr => ∃ k : Nat, k ≤ n ∧ i = .int .i64 k ∧ ∃ st : Int, u = .int .i64 st ∧ FolT w g st wr) (fun _ i _ => n - (intOf i).toNat)
  case atStart => exact ⟨0, Nat.zero_le _, rfl, 0, rfl, F2.out⟩
  case round =>
    obtain ⟨k, hk, rfl, st, rfl, hfol⟩ := hrel
    have HF := Lib.hid hfol
    clear hfol F2
    by_cases hlt : k < n
    · obtain ⟨x, hx⟩ : ∃ x, l[k]? = some x := ⟨l[k]'(by have := HV.out.1; omega), List.getElem?_eq_getElem _⟩
      obtain ⟨b, o, hX, hb, hall⟩ := HV.out.2 (by omega)
      subst hX
      obtain ⟨c0, c1, c2, c3⟩ := hall k x hx
      obtain ⟨A, nw, cc, ht, hkp, hbl⟩ := HF.out
      have e0 : wr.cell? ⟨b, o + k * 4, none⟩ = some (.int .i64 x.src) := (hkp.cell hb (by simp)).trans c0
      have e1 : wr.cell? ⟨b, o + k * 4 + 1, none⟩ = some (.int .i64 x.num) := (hkp.cell hb (by simp)).trans c1
      have e2 : wr.cell? ⟨b, o + k * 4 + 2, none⟩ = some (.int .i64 x.stg) := (hkp.cell hb (by simp)).trans c2
      have e3 : wr.cell? ⟨b, o + k * 4 + 3, none⟩ = some (.int .i64 x.cod) := (hkp.cell hb (by simp)).trans c3
      have HT := Lib.hid ht
      have HK := Lib.hid hkp
      have HBL := Lib.hid hbl
      have hkn : (k : Int) < (n : Int) := by omega
      clear hall c0 c1 c2 c3 ht hkp hbl hx
      have hx0 := Blk.new wr 31 #[.int .i64 x.src, .int .i64 x.num, .int .i64 x.stg, .int .i64 x.cod]
      have fr0 := hx0.frozen 0
      have fr1 := (hx0.set_ 0 (.int .i64 1)).frozen 1
      clear hx0 fr0 fr1
      go_wp2_with fail
      have kw : Keep wr.heap.size [] wr (wr.alloc (abox ⟨1, 3, x.stg, x.cod⟩)) := (Keep.refl _ _ _).alloc (Nat.le_refl _) _
      have hy := Blk.new wr 31 (acells ⟨1, 3, x.stg, x.cod⟩)
      have KW := Lib.hid kw
      have HY := Lib.hid hy
      clear kw hy
      obtain ⟨W, hW⟩ : ∃ W, W = wr.alloc (abox ⟨1, 3, x.stg, x.cod⟩) := ⟨_, rfl⟩
      change Calls _ _ _ (wr.alloc (abox ⟨1, 3, x.stg, x.cod⟩)) _
      change Hid (Blk (wr.alloc (abox ⟨1, 3, x.stg, x.cod⟩)) _ _ _) at HY
      rw [← hW] at KW HY ⊢
      clear hW e0 e1 e2 e3
      have HTW := Lib.hid (HT.out.keep0 KW.out)
      have KWW : Hid (Keep w.heap.size [] w W) := Lib.hid (HK.out.chain0 (Nat.le_refl _) KW.out)
      have hyb : Blk W wr.heap.size 31 (acells ⟨1, 3, x.stg, x.cod⟩) := HY.out
      have HYB := Lib.hid hyb
      have hgn : Hid (wr.heap.size ≠ g) := Lib.hid (by have := HT.out.lt; omega)
      have hAn : Hid (wr.heap.size ∉ blks A) := Lib.hid (by obtain ⟨_, _, _, _, hs, _⟩ := HT.out; intro hm; exact absurd (hs.blk hm) (by omega))
      clear hyb HY KW
      obtain ⟨y, hy⟩ : ∃ y : Ak, y = ⟨1, 3, x.stg, x.cod⟩ := ⟨_, rfl⟩
      have hys : y.src = 1 := by rw [hy]
      have hyn : y.num = 3 := by rw [hy]
      have hyg : y.stg = x.stg := by rw [hy]
      have HYS := Lib.hid hys
      have HYN := Lib.hid hyn
      rw [← hy] at HYB
      have hag : (.agg #[.int .i64 1, .int .i64 3, .int .i64 x.stg, .int .i64 x.cod] : Value) = aagg y := by rw [hy]
      have HAG := Lib.hid hag
      have hyc : y.cod = x.cod := by rw [hy]
      have HYG := Lib.hid hyg
      have HYC := Lib.hid hyc
      clear hys hyn hag hyg hyc
      rw [HAG.out]
      cases hva : y.valid with
      | false =>
        have HVA := Lib.hid hva
        clear hva
        refine (take_any _ g A ⟨nw, 5, [⟨1, 3, 0, st, cc⟩]⟩ ⟨adv nw k, 5, [⟨1, 3, 0, st, cc⟩]⟩ y k 1 (by exact step_bad _ _ _ _ _ HYS.out HYN.out HVA.out) HTW.out).mono ?_
        rintro e w3 ⟨rfl, A3, ht3, hk3, hb3⟩
        have HB3 : Hid (∀ x, x ∈ blks A3 → w.heap.size ≤ x) := Lib.hid (fun x hx => by rcases hb3 x hx with h | h; exact HBL.out x h; exact Nat.le_trans KWW.out.size h)
        have K3 : Hid (Keep w.heap.size [] w w3) := Lib.hid (KWW.out.chain (Nat.le_refl _) hk3 (fun x hx => by rcases List.mem_cons.1 hx with rfl | h; exact HG.out; exact HBL.out x h))
        have hyb := HYB.out.keepS hk3 (by intro hm; rcases List.mem_cons.1 hm with h | h; exact hgn.out h; exact hAn.out h)
        have y0 : w3.cell? ⟨wr.heap.size, 0, none⟩ = some (.int .i64 y.src) := hyb.cell 0
        have y1 : w3.cell? ⟨wr.heap.size, 1, none⟩ = some (.int .i64 y.num) := hyb.cell 1
        have y2 : w3.cell? ⟨wr.heap.size, 2, none⟩ = some (.int .i64 y.stg) := hyb.cell 2
        have y3 : w3.cell? ⟨wr.heap.size, 3, none⟩ = some (.int .i64 y.cod) := hyb.cell 3
        have HYB3 := Lib.hid hyb
        have HT3 := Lib.hid ht3
        clear hk3 hb3 hyb ht3
        go_wp2_with fail
        rw [HAG.out]
        refine (rvalid_v _ y false HVA.out).mono ?_
        rintro e w4 ⟨rfl, hw4⟩
        have kw4 : Keep w3.heap.size [] w3 w4 := hw4 ▸ (Keep.refl _ _ _).alloc (Nat.le_refl _) _
        have HT4 := Lib.hid (HT3.out.keep0 kw4)
        have K4 : Hid (Keep w.heap.size [] w w4) := Lib.hid (K3.out.chain0 (Nat.le_refl _) kw4)
        have hyb := HYB3.out.keepS kw4 (by simp)
        clear y0 y1 y2 y3
        have y2 : w4.cell? ⟨wr.heap.size, 2, none⟩ = some (.int .i64 y.stg) := hyb.cell 2
        clear hw4 kw4 hyb
        go_wp2_with fail
        refine (stage_any _ g A3 ⟨adv nw k, 5, [⟨1, 3, 0, st, cc⟩]⟩ 1 3 st (by exact stage_one _ _ _) HT4.out).mono ?_
        rintro e w5 ⟨rfl, rfl⟩
        cases hfi : final st with
        | true =>
          have HFI := Lib.hid hfi
          clear hfi
          go_wp2_with fail
          refine (open_any _ g A3 ⟨adv nw k, 5, [⟨1, 3, 0, st, cc⟩]⟩ 0 (by exact open_fin _ _ HFI.out) HT4.out).mono ?_
          rintro e w6 ⟨rfl, hk6⟩
          have HT6 := Lib.hid (HT4.out.keep0 hk6)
          have K6 : Hid (Keep w.heap.size [] w w6) := Lib.hid (K4.out.chain0 (Nat.le_refl _) hk6)
          clear hk6
          go_wp2_with fail
          refine (rfinal_v _ st true HFI.out).mono ?_
          rintro e w7 ⟨rfl, rfl⟩
          go_wp2_with fail
          go_roundw
          case rel => exact ⟨k + 1, by omega, by go_num, st, rfl, A3, adv nw k, cc, HT6.out, K6.out, HB3.out⟩
          case measure => simp [intOf]; omega
        | false =>
          have HFI := Lib.hid hfi
          clear hfi
          go_wp2_with fail
          refine (open_any _ g A3 ⟨adv nw k, 5, [⟨1, 3, 0, st, cc⟩]⟩ 1 (by exact open_not _ _ HFI.out) HT4.out).mono ?_
          rintro e w6 ⟨rfl, hk6⟩
          have HT6 := Lib.hid (HT4.out.keep0 hk6)
          have K6 : Hid (Keep w.heap.size [] w w6) := Lib.hid (K4.out.chain0 (Nat.le_refl _) hk6)
          clear hk6
          go_wp2_with fail
          refine (rfinal_v _ st false HFI.out).mono ?_
          rintro e w7 ⟨rfl, rfl⟩
          go_wp2_with fail
          go_roundw
          case rel => exact ⟨k + 1, by omega, by go_num, st, rfl, A3, adv nw k, cc, HT6.out, K6.out, HB3.out⟩
          case measure => simp [intOf]; omega
      | true =>
        have HVA := Lib.hid hva
        clear hva
        cases hfo : follows st y.stg with
        | false =>
          have HFO := Lib.hid hfo
          clear hfo
          refine (take_any _ g A ⟨nw, 5, [⟨1, 3, 0, st, cc⟩]⟩ ⟨adv nw k, 5, [⟨1, 3, 0, st, cc⟩]⟩ y k 12 (by exact step_no _ _ _ _ _ HYS.out HYN.out HVA.out HFO.out) HTW.out).mono ?_
          rintro e w3 ⟨rfl, A3, ht3, hk3, hb3⟩
          have HB3 : Hid (∀ x, x ∈ blks A3 → w.heap.size ≤ x) := Lib.hid (fun x hx => by rcases hb3 x hx with h | h; exact HBL.out x h; exact Nat.le_trans KWW.out.size h)
          have K3 : Hid (Keep w.heap.size [] w w3) := Lib.hid (KWW.out.chain (Nat.le_refl _) hk3 (fun x hx => by rcases List.mem_cons.1 hx with rfl | h; exact HG.out; exact HBL.out x h))
          have hyb := HYB.out.keepS hk3 (by intro hm; rcases List.mem_cons.1 hm with h | h; exact hgn.out h; exact hAn.out h)
          have y0 : w3.cell? ⟨wr.heap.size, 0, none⟩ = some (.int .i64 y.src) := hyb.cell 0
          have y1 : w3.cell? ⟨wr.heap.size, 1, none⟩ = some (.int .i64 y.num) := hyb.cell 1
          have y2 : w3.cell? ⟨wr.heap.size, 2, none⟩ = some (.int .i64 y.stg) := hyb.cell 2
          have y3 : w3.cell? ⟨wr.heap.size, 3, none⟩ = some (.int .i64 y.cod) := hyb.cell 3
          have HYB3 := Lib.hid hyb
          have HT3 := Lib.hid ht3
          clear hk3 hb3 hyb ht3
          go_wp2_with fail
          rw [HAG.out]
          refine (rvalid_v _ y true HVA.out).mono ?_
          rintro e w4 ⟨rfl, hw4⟩
          have kw4 : Keep w3.heap.size [] w3 w4 := hw4 ▸ (Keep.refl _ _ _).alloc (Nat.le_refl _) _
          have HT4 := Lib.hid (HT3.out.keep0 kw4)
          have K4 : Hid (Keep w.heap.size [] w w4) := Lib.hid (K3.out.chain0 (Nat.le_refl _) kw4)
          have hyb := HYB3.out.keepS kw4 (by simp)
          clear y0 y1 y2 y3
          have y2 : w4.cell? ⟨wr.heap.size, 2, none⟩ = some (.int .i64 y.stg) := hyb.cell 2
          clear hw4 kw4 hyb
          go_wp2_with fail
          refine (rfollows_v _ st x.stg false (by rw [← HYG.out]; exact HFO.out)).mono ?_
          rintro e w5 ⟨rfl, rfl⟩
          go_wp2_with fail
          refine (stage_any _ g A3 ⟨adv nw k, 5, [⟨1, 3, 0, st, cc⟩]⟩ 1 3 st (by exact stage_one _ _ _) HT4.out).mono ?_
          rintro e w5 ⟨rfl, rfl⟩
          cases hfi : final st with
          | true =>
            have HFI := Lib.hid hfi
            clear hfi
            go_wp2_with fail
            refine (open_any _ g A3 ⟨adv nw k, 5, [⟨1, 3, 0, st, cc⟩]⟩ 0 (by exact open_fin _ _ HFI.out) HT4.out).mono ?_
            rintro e w6 ⟨rfl, hk6⟩
            have HT6 := Lib.hid (HT4.out.keep0 hk6)
            have K6 : Hid (Keep w.heap.size [] w w6) := Lib.hid (K4.out.chain0 (Nat.le_refl _) hk6)
            clear hk6
            go_wp2_with fail
            refine (rfinal_v _ st true HFI.out).mono ?_
            rintro e w7 ⟨rfl, rfl⟩
            go_wp2_with fail
            go_roundw
            case rel => exact ⟨k + 1, by omega, by go_num, st, rfl, A3, adv nw k, cc, HT6.out, K6.out, HB3.out⟩
            case measure => simp [intOf]; omega
          | false =>
            have HFI := Lib.hid hfi
            clear hfi
            go_wp2_with fail
            refine (open_any _ g A3 ⟨adv nw k, 5, [⟨1, 3, 0, st, cc⟩]⟩ 1 (by exact open_not _ _ HFI.out) HT4.out).mono ?_
            rintro e w6 ⟨rfl, hk6⟩
            have HT6 := Lib.hid (HT4.out.keep0 hk6)
            have K6 : Hid (Keep w.heap.size [] w w6) := Lib.hid (K4.out.chain0 (Nat.le_refl _) hk6)
            clear hk6
            go_wp2_with fail
            refine (rfinal_v _ st false HFI.out).mono ?_
            rintro e w7 ⟨rfl, rfl⟩
            go_wp2_with fail
            go_roundw
            case rel => exact ⟨k + 1, by omega, by go_num, st, rfl, A3, adv nw k, cc, HT6.out, K6.out, HB3.out⟩
            case measure => simp [intOf]; omega
        | true =>
          have HFO := Lib.hid hfo
          clear hfo
          refine (take_any _ g A ⟨nw, 5, [⟨1, 3, 0, st, cc⟩]⟩ ⟨adv nw k, 5, [⟨1, 3, 0, x.stg, x.cod⟩]⟩ y k 0 (by exact step_yes _ _ _ _ _ _ _ HYS.out HYN.out HVA.out HFO.out HYG.out HYC.out) HTW.out).mono ?_
          rintro e w3 ⟨rfl, A3, ht3, hk3, hb3⟩
          have HB3 : Hid (∀ x, x ∈ blks A3 → w.heap.size ≤ x) := Lib.hid (fun x hx => by rcases hb3 x hx with h | h; exact HBL.out x h; exact Nat.le_trans KWW.out.size h)
          have K3 : Hid (Keep w.heap.size [] w w3) := Lib.hid (KWW.out.chain (Nat.le_refl _) hk3 (fun x hx => by rcases List.mem_cons.1 hx with rfl | h; exact HG.out; exact HBL.out x h))
          have hyb := HYB.out.keepS hk3 (by intro hm; rcases List.mem_cons.1 hm with h | h; exact hgn.out h; exact hAn.out h)
          have y0 : w3.cell? ⟨wr.heap.size, 0, none⟩ = some (.int .i64 y.src) := hyb.cell 0
          have y1 : w3.cell? ⟨wr.heap.size, 1, none⟩ = some (.int .i64 y.num) := hyb.cell 1
          have y2 : w3.cell? ⟨wr.heap.size, 2, none⟩ = some (.int .i64 y.stg) := hyb.cell 2
          have y3 : w3.cell? ⟨wr.heap.size, 3, none⟩ = some (.int .i64 y.cod) := hyb.cell 3
          have HYB3 := Lib.hid hyb
          have HT3 := Lib.hid ht3
          clear hk3 hb3 hyb ht3
          go_wp2_with fail
          rw [HAG.out]
          refine (rvalid_v _ y true HVA.out).mono ?_
          rintro e w4 ⟨rfl, hw4⟩
          have kw4 : Keep w3.heap.size [] w3 w4 := hw4 ▸ (Keep.refl _ _ _).alloc (Nat.le_refl _) _
          have HT4 := Lib.hid (HT3.out.keep0 kw4)
          have K4 : Hid (Keep w.heap.size [] w w4) := Lib.hid (K3.out.chain0 (Nat.le_refl _) kw4)
          have hyb := HYB3.out.keepS kw4 (by simp)
          clear y0 y1 y2 y3
          have y2 : w4.cell? ⟨wr.heap.size, 2, none⟩ = some (.int .i64 y.stg) := hyb.cell 2
          clear hw4 kw4 hyb
          go_wp2_with fail
          refine (rfollows_v _ st x.stg true (by rw [← HYG.out]; exact HFO.out)).mono ?_
          rintro e w5 ⟨rfl, rfl⟩
          go_wp2_with fail
          refine (stage_any _ g A3 ⟨adv nw k, 5, [⟨1, 3, 0, x.stg, x.cod⟩]⟩ 1 3 x.stg (by exact stage_one _ _ _) HT4.out).mono ?_
          rintro e w5 ⟨rfl, rfl⟩
          cases hfi : final x.stg with
          | true =>
            have HFI := Lib.hid hfi
            clear hfi
            go_wp2_with fail
            refine (open_any _ g A3 ⟨adv nw k, 5, [⟨1, 3, 0, x.stg, x.cod⟩]⟩ 0 (by exact open_fin _ _ HFI.out) HT4.out).mono ?_
            rintro e w6 ⟨rfl, hk6⟩
            have HT6 := Lib.hid (HT4.out.keep0 hk6)
            have K6 : Hid (Keep w.heap.size [] w w6) := Lib.hid (K4.out.chain0 (Nat.le_refl _) hk6)
            clear hk6
            go_wp2_with fail
            refine (rfinal_v _ x.stg true HFI.out).mono ?_
            rintro e w7 ⟨rfl, rfl⟩
            go_wp2_with fail
            go_roundw
            case rel => exact ⟨k + 1, by omega, by go_num, x.stg, rfl, A3, adv nw k, x.cod, HT6.out, K6.out, HB3.out⟩
            case measure => simp [intOf]; omega
          | false =>
            have HFI := Lib.hid hfi
            clear hfi
            go_wp2_with fail
            refine (open_any _ g A3 ⟨adv nw k, 5, [⟨1, 3, 0, x.stg, x.cod⟩]⟩ 1 (by exact open_not _ _ HFI.out) HT4.out).mono ?_
            rintro e w6 ⟨rfl, hk6⟩
            have HT6 := Lib.hid (HT4.out.keep0 hk6)
            have K6 : Hid (Keep w.heap.size [] w w6) := Lib.hid (K4.out.chain0 (Nat.le_refl _) hk6)
            clear hk6
            go_wp2_with fail
            refine (rfinal_v _ x.stg false HFI.out).mono ?_
            rintro e w7 ⟨rfl, rfl⟩
            go_wp2_with fail
            go_roundw
            case rel => exact ⟨k + 1, by omega, by go_num, x.stg, rfl, A3, adv nw k, x.cod, HT6.out, K6.out, HB3.out⟩
            case measure => simp [intOf]; omega
    · obtain rfl : k = n := by omega
      go_wp2_with fail
      refine (alive_any _).mono ?_
      rintro e w5 ⟨rfl, hk5⟩
      go_wp2_with fail
      go_ret
      obtain ⟨_, _, _, _, hkp, _⟩ := HF.out
      exact ⟨rfl, hkp.chain0 (Nat.le_refl _) hk5⟩
end Go.Proofs.Ytcpfdkmdhpclkaa
