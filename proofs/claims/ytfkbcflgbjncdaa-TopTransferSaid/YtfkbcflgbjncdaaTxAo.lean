/- TopTransfer: the law's walk. -/
import Derived.Test.YtfkbcflgbjncdaaTxAn
namespace Go.Proofs.Ytfkbcflgbjncdaa
set_option linter.unusedVariables false
set_option linter.unusedSimpArgs false
open Go.RowKit
theorem plan_lit : strOfNums plan = (⟨#[112, 108, 97, 110]⟩ : ByteArray) := by rfl
theorem got1_back {F : List Int} {t : Nat} {up : Bool} {K K1 : Sk} {o : Option Ut} (hg : Got1 F t up K o K1) : (K.ph = 0 → K1.ph = 0 ∨ K1.ph = 1) ∧ (K.ph = 2 → K1.ph = 2) := by
  refine ⟨fun h => ?_, fun h => (got1_ph hg h).1⟩
  rcases hg with ⟨rfl, _⟩ | ⟨u, K0, rfl, _, hr, rfl⟩
  · exact .inl h
  · have := rec_ph hr
    rcases chk_or (n := F.length) (K := K0) (by omega) with e | e
    · exact .inr e
    · rw [e]; left; omega
theorem newU (w1 : World) (p : Pd) (l : Lc) : ∃ (W : World) (q : Nat), W = w1.alloc (.cells (pcs p l) TP) ∧ q = w1.heap.size ∧ Blk W q TP (pcs p l) ∧ Keep w1.heap.size [] w1 W :=
  ⟨_, _, rfl, rfl, Blk.new _ _ _, (Keep.refl _ _ _).alloc (Nat.le_refl _) _⟩
/-- the blocks of the sending end that are read -/
def slv (ps : Nat) (F : List Int) (l : Ly) (S : Sr) : List Nat := ps :: ((if F.length = 0 then [] else blks l.D) ++ (if S.wd.length = 0 then [] else blks l.W))
theorem SrAt.keepL {w w' : World} {p : Nat} {F : List Int} {c : Nat} {l : Ly} {S : Sr} {X : List Nat} (h : SrAt w p F c l S) (k : Keep w.heap.size X w w') (hx : ∀ y, y ∈ slv p F l S → y ∉ X) : SrAt w' p F c l S :=
  ⟨h.blk.keepS k (hx p (by simp [slv])), h.data.keepP k (fun h0 g hg => hx g (by simp only [slv, if_neg (show ¬ F.length = 0 by omega), List.mem_cons, List.mem_append]; exact .inr (.inl hg))), h.dc, h.nD,
    h.want.keepP k (fun h0 g hg => hx g (by simp only [slv, if_neg (show ¬ S.wd.length = 0 by omega), List.mem_cons, List.mem_append]; exact .inr (.inr hg))), h.wc, h.nW⟩
theorem vw_lt {w : World} {X : Option Addr} {m size : Nat} {xs : List Value} (h : Vw w X m size xs) (hm : 0 < m) {y : Nat} (hy : y ∈ blks X) : y < w.heap.size := by
  obtain ⟨b, o, rfl, hb, _⟩ := h.2 hm
  simp only [blks, List.mem_singleton] at hy
  omega
theorem SrAt.slt {w : World} {p : Nat} {F : List Int} {c : Nat} {l : Ly} {S : Sr} (h : SrAt w p F c l S) {y : Nat} (hy : y ∈ slv p F l S) : y < w.heap.size := by
  simp only [slv, List.mem_cons, List.mem_append] at hy
  rcases hy with h9 | h9 | h9
  · rw [h9]; exact h.blk.lt
  · split at h9
    · cases h9
    · exact vw_lt h.data (by omega) h9
  · split at h9
    · cases h9
    · exact vw_lt h.want (by omega) h9
theorem SkAt.slt {w : World} {p : Nat} {F : List Int} {c : Nat} {l : Ly} {K : Sk} (h : SkAt w p F c l K) {y : Nat} (hy : y ∈ sbl p l) : y < w.heap.size := by
  simp only [sbl, List.mem_cons, List.mem_append] at hy
  rcases hy with h9 | h9 | h9
  · rw [h9]; exact h.blk.lt
  · exact h.data.blk h9
  · exact h.got.blk h9
/-- both ends in a world of the loop, which began in W2 -/
structure Both (W2 w : World) (ps pk : Nat) (F : List Int) (c : Nat) (l lk : Ly) (S : Sr) (K : Sk) : Prop where
  s : SrAt w ps F c l S
  k : SkAt w pk F c lk K
  kw : Keep W2.heap.size [ps, pk] W2 w
  fr : ∀ y, y ∈ blks lk.D ++ blks lk.W → W2.heap.size ≤ y
  di : ∀ y, y ∈ slv ps F l S → y ∉ sbl pk lk
section
variable {W2 w w' : World} {ps pk : Nat} {F : List Int} {c : Nat} {l l' lk lk' : Ly} {S S' : Sr} {K K' : Sk}
theorem Both.keep0 (h : Both W2 w ps pk F c l lk S K) (k : Keep w.heap.size [] w w') : Both W2 w' ps pk F c l lk S K :=
  ⟨h.s.keepL k (by simp), h.k.keepS k (by simp), h.kw.trans (k.mono h.kw.size (by simp)), h.fr, h.di⟩
theorem Both.src (h : Both W2 w ps pk F c l lk S K) (k : Keep w.heap.size [ps] w w') (hs : SrAt w' ps F c l' S') (hl : LyOk w l l' S S') : Both W2 w' ps pk F c l' lk S' K := by
  refine ⟨hs, h.k.keepS k (fun y hy hm => h.di ps (by simp [slv]) (by rw [← List.mem_singleton.1 hm]; exact hy)), h.kw.trans (k.mono h.kw.size (fun y _ hy => by simp only [List.mem_singleton] at hy; simp [hy])), h.fr, fun y hy hm => ?_⟩
  have hlt := h.k.slt hm
  simp only [slv, List.mem_cons, List.mem_append] at hy
  rcases hy with h9 | h9 | h9
  · exact h.di y (by simp [slv, h9]) hm
  · split at h9
    · cases h9
    · rename_i h0
      refine h.di y ?_ hm
      simp only [slv, if_neg h0, List.mem_cons, List.mem_append]
      rw [hl.1] at h9
      exact .inr (.inl h9)
  · split at h9
    · cases h9
    · rename_i h0
      rcases hl.2 (fun hh => h0 (by rw [hh]; rfl)) y h9 with ⟨h1, h2⟩ | h1
      · refine h.di y ?_ hm
        have h3 : ¬ S.wd.length = 0 := fun hh => h1 (List.eq_nil_of_length_eq_zero hh)
        simp only [slv, if_neg h3, List.mem_cons, List.mem_append]
        exact .inr (.inr h2)
      · omega
theorem Both.snk (h : Both W2 w ps pk F c l lk S K) (k : Keep w.heap.size (pk :: blks lk.D) w w') (hk : SkAt w' pk F c lk' K') (hb : ∀ y, y ∈ sbl pk lk' → y ∈ sbl pk lk ∨ w.heap.size ≤ y) : Both W2 w' ps pk F c l lk' S K' := by
  have hsz := h.kw.size
  refine ⟨h.s.keepL k (fun y hy hm => h.di y hy (by simp only [sbl, List.mem_cons, List.mem_append] at hm ⊢; rcases hm with h9 | h9; exact .inl h9; exact .inr (.inl h9))), hk, h.kw.trans (k.mono hsz (fun y hy hm => ?_)), fun y hy => ?_, fun y hy hm => ?_⟩
  · rcases List.mem_cons.1 hm with h9 | h9
    · simp [h9]
    · have := h.fr y (by simp [h9]); omega
  · have hne : y ≠ pk := fun hh => by
      rcases List.mem_append.1 hy with h9 | h9
      · exact hk.nD (hh ▸ h9)
      · exact hk.nW (hh ▸ h9)
    rcases hb y (by simp only [sbl, List.mem_cons]; exact .inr hy) with h9 | h9
    · simp only [sbl, List.mem_cons] at h9
      rcases h9 with h9 | h9
      · exact absurd h9 hne
      · exact h.fr y h9
    · omega
  · rcases hb y hm with h9 | h9
    · exact h.di y hy h9
    · have := h.s.slt hy; omega
theorem Both.snk1 (h : Both W2 w ps pk F c l lk S K) (k : Keep w.heap.size [pk] w w') (hk : SkAt w' pk F c lk K') : Both W2 w' ps pk F c l lk S K' :=
  h.snk (k.mono (Nat.le_refl _) (fun y _ hy => by simp only [List.mem_singleton] at hy; simp [hy])) hk (fun y hy => .inl hy)
end
theorem okk_ph {F : List Int} {c t : Nat} {S : Sr} {K : Sk} {u : Ut} (hok : OkK c F.length S K (some u)) (hx : XR S K) (hi : IK F c t K) : S.ph ≠ 0 := fun h0 => by
  have hz := hx.zf h0
  cases u with
  | ae => rw [show K.fin = true from hok] at hz; cases hz
  | nk m L => rw [show K.fin = true from hok.2.2.2.2.1] at hz; cases hz
  | fi => rw [(hi.all (by rw [show K.ph = 2 from hok]; omega)).2.1] at hz; cases hz
  | md => exact hok
  | ef => exact hok
  | ad => exact hok
  | pc a b => exact hok
set_option maxRecDepth 200000 in
set_option maxHeartbeats 40000000 in
theorem law_early (w : World) (X : Option Addr) (xc : Nat) (F : List Int) (U : Option Addr) (un uc : Nat) (bu : List Bool) (V : Option Addr) (vn vc : Nat) (bv : List Bool) (ch : Int) (hX : Vw w X F.length 1 (octs F)) (hXc : F.length ≤ xc ∧ xc ≤ maxLen) (oF : Oct F) (hU : Vw w U un 1 (bu.map Value.bool)) (hUc : un ≤ uc ∧ uc ≤ maxLen) (hV : Vw w V vn 1 (bv.map Value.bool)) (hVc : vn ≤ vc ∧ vc ≤ maxLen) (h : 300 < F.length ∨ ch < 8 ∨ 512 < ch ∨ 50 < un ∨ 50 < vn) : Calls Try.prog 5 #[.agg #[.slice X F.length xc, .int .i64 ch, .slice U un uc, .slice V vn vc]] w fun e w' => e = .returned (.bool true) ∧ Keep w.heap.size [] w w' := by
  have h5 : (300 : Int) < (F.length : Int) ∨ (¬ (300 : Int) < (F.length : Int) ∧ ch < 8) ∨ (¬ (300 : Int) < (F.length : Int) ∧ ¬ ch < 8 ∧ 512 < ch) ∨ (¬ (300 : Int) < (F.length : Int) ∧ ¬ ch < 8 ∧ ¬ 512 < ch ∧ (50 : Int) < (un : Int)) ∨ (¬ (300 : Int) < (F.length : Int) ∧ ¬ ch < 8 ∧ ¬ 512 < ch ∧ ¬ (50 : Int) < (un : Int) ∧ (50 : Int) < (vn : Int)) := by omega
  clear hX hU hV h oF
  rcases h5 with h1 | ⟨h1, h2⟩ | ⟨h1, h2, h3⟩ | ⟨h1, h2, h3, h4⟩ | ⟨h1, h2, h3, h4, h5⟩
  · go_enter Try.func5, Try.ntmps5
    go_wp2_with fail
    go_ret
    exact ⟨rfl, (Keep.refl _ _ _).alloc (Nat.le_refl _) _⟩
  · go_enter Try.func5, Try.ntmps5
    go_wp2_with fail
    go_ret
    exact ⟨rfl, (Keep.refl _ _ _).alloc (Nat.le_refl _) _⟩
  · go_enter Try.func5, Try.ntmps5
    go_wp2_with fail
    go_ret
    exact ⟨rfl, (Keep.refl _ _ _).alloc (Nat.le_refl _) _⟩
  · go_enter Try.func5, Try.ntmps5
    go_wp2_with fail
    go_ret
    exact ⟨rfl, (Keep.refl _ _ _).alloc (Nat.le_refl _) _⟩
  · go_enter Try.func5, Try.ntmps5
    go_wp2_with fail
    go_ret
    exact ⟨rfl, (Keep.refl _ _ _).alloc (Nat.le_refl _) _⟩
set_option maxRecDepth 200000 in
set_option maxHeartbeats 40000000 in
theorem law_main (w : World) (X : Option Addr) (xc : Nat) (F : List Int) (U : Option Addr) (un uc : Nat) (bu : List Bool) (V : Option Addr) (vn vc : Nat) (bv : List Bool) (c : Nat) (hX : Vw w X F.length 1 (octs F)) (hXc : F.length ≤ xc ∧ xc ≤ maxLen) (oF : Oct F) (hU : Vw w U un 1 (bu.map Value.bool)) (hUc : un ≤ uc ∧ uc ≤ maxLen) (hV : Vw w V vn 1 (bv.map Value.bool)) (hVc : vn ≤ vc ∧ vc ≤ maxLen) (hn : F.length ≤ 300) (hc : 8 ≤ c) (hc2 : c ≤ 512) (hun : un ≤ 50) (hvn : vn ≤ 50) : Calls Try.prog 5 #[.agg #[.slice X F.length xc, .int .i64 c, .slice U un uc, .slice V vn vc]] w fun e w' => e = .returned (.bool true) ∧ Keep w.heap.size [] w w' := by
  have HX := Lib.hid hX
  have HU := Lib.hid hU
  have HV := Lib.hid hV
  have HO := Lib.hid oF
  have h1 : ¬ (300 : Int) < (F.length : Int) := by omega
  have h2 : ¬ (c : Int) < 8 := by omega
  have h3 : ¬ (512 : Int) < (c : Int) := by omega
  have h4 : ¬ (50 : Int) < (un : Int) := by omega
  have h5 : ¬ (50 : Int) < (vn : Int) := by omega
  have hxI : (F.length : Int) ≤ (xc : Int) := by omega
  have huI : (un : Int) ≤ (uc : Int) := by omega
  have hvI : (vn : Int) ≤ (vc : Int) := by omega
  clear hX hU hV oF
  go_enter Try.func5, Try.ntmps5
  go_upto_region 5 with fail
  clear h1 h2 h3 h4 h5
  obtain ⟨W0, hW0⟩ : ∃ W0, W0 = ((w.alloc (.cells #[.slice X F.length xc, .int .i64 c, .slice U un uc, .slice V vn vc] 71)).alloc (.cells #[.int .i64 c, .int .i64 10, .int .i64 50] 73)).alloc (.cells #[.int .i64 1, .int .i64 7] 75) := ⟨_, rfl⟩
  obtain ⟨bx, hbx⟩ : ∃ q, q = w.heap.size := ⟨_, rfl⟩
  obtain ⟨bc, hbc⟩ : ∃ q, q = w.heap.size + 1 := ⟨_, rfl⟩
  obtain ⟨bi, hbi⟩ : ∃ q, q = w.heap.size + 1 + 1 := ⟨_, rfl⟩
  have x0 : Blk W0 bx 71 #[.slice X F.length xc, .int .i64 c, .slice U un uc, .slice V vn vc] := by rw [hW0, hbx]; exact ((Blk.new w _ _).alloc _).alloc _
  have c0 : Blk W0 bc 73 #[.int .i64 c, .int .i64 10, .int .i64 50] := by
    rw [hW0, hbc]
    have h := (Blk.new (w.alloc (.cells #[.slice X F.length xc, .int .i64 c, .slice U un uc, .slice V vn vc] 71)) 73 #[.int .i64 c, .int .i64 10, .int .i64 50]).alloc (.cells #[.int .i64 1, .int .i64 7] 75)
    simpa using h
  have i0 : Blk W0 bi 75 #[.int .i64 1, .int .i64 7] := by
    rw [hW0, hbi]
    have h := Blk.new ((w.alloc (.cells #[.slice X F.length xc, .int .i64 c, .slice U un uc, .slice V vn vc] 71)).alloc (.cells #[.int .i64 c, .int .i64 10, .int .i64 50] 73)) 75 #[.int .i64 1, .int .i64 7]
    simpa using h
  have k0 : Keep w.heap.size [] w W0 := by
    rw [hW0]
    exact (((Keep.refl _ _ w).alloc (Nat.le_refl _) _).alloc (by simp) _).alloc (by simp; omega) _
  change Code.wp _ _ _ _ (((w.alloc (.cells #[.slice X F.length xc, .int .i64 c, .slice U un uc, .slice V vn vc] 71)).alloc (.cells #[.int .i64 c, .int .i64 10, .int .i64 50] 73)).alloc (.cells #[.int .i64 1, .int .i64 7] 75))
  rw [← hW0, ← hbi, ← hbc, ← hbx]
  have K0 := Lib.hid k0
  have X0 := Lib.hid x0
  have y0 : W0.cell? ⟨bx, 0, none⟩ = some (.slice X F.length xc) := x0.cell 0
  have yc0 : W0.cell? ⟨bc, 0, none⟩ = some (.int .i64 c) := c0.cell 0
  have yc1 : W0.cell? ⟨bc, 1, none⟩ = some (.int .i64 10) := c0.cell 1
  have yc2 : W0.cell? ⟨bc, 2, none⟩ = some (.int .i64 50) := c0.cell 2
  have yi0 : W0.cell? ⟨bi, 0, none⟩ = some (.int .i64 1) := i0.cell 0
  have yi1 : W0.cell? ⟨bi, 1, none⟩ = some (.int .i64 7) := i0.cell 1
  have C0 := Lib.hid c0
  have I0 := Lib.hid i0
  clear hW0 hbx hbc hbi x0 c0 i0 k0
  go_wp2_with fail
  rw [← plan_lit]
  refine (snew_w _ F c X xc hc hc2 hn HO.out (by exact HX.out.keep0 K0.out) hXc).mono ?_
  rintro e W1 ⟨ps, l, rfl, hs1, hk1, hf1⟩
  have zc0 : W1.cell? ⟨bc, 0, none⟩ = some (.int .i64 c) := (C0.out.keepS hk1 (by simp)).cell 0
  have zc1 : W1.cell? ⟨bc, 1, none⟩ = some (.int .i64 10) := (C0.out.keepS hk1 (by simp)).cell 1
  have zc2 : W1.cell? ⟨bc, 2, none⟩ = some (.int .i64 50) := (C0.out.keepS hk1 (by simp)).cell 2
  have zi0 : W1.cell? ⟨bi, 0, none⟩ = some (.int .i64 1) := (I0.out.keepS hk1 (by simp)).cell 0
  have zi1 : W1.cell? ⟨bi, 1, none⟩ = some (.int .i64 7) := (I0.out.keepS hk1 (by simp)).cell 1
  have K1 := Lib.hid hk1
  have S1 := Lib.hid hs1
  clear hs1 hk1 y0 yc0 yc1 yc2 yi0 yi1
  go_wp2_with fail
  refine (knew_w _ F c hc hc2).mono ?_
  rintro e W2 ⟨pk, lk, rfl, hs2, hk2, hf2⟩
  have K01 : Hid (Keep w.heap.size [] w W1) := Lib.hid (K0.out.chain0 (Nat.le_refl _) K1.out)
  have X1 : Hid (Blk W1 bx 71 #[.slice X F.length xc, .int .i64 c, .slice U un uc, .slice V vn vc]) := Lib.hid (X0.out.keepS K1.out (by simp))
  have BO2 : Hid (Both W1 W2 ps pk F c l lk sr0 sk0) := Lib.hid ⟨S1.out.keepL hk2 (by simp), hs2, hk2.mono (Nat.le_refl _) (by simp), (fun y hy => hf2 y (by simp only [sbl, List.mem_cons]; exact .inr hy)), (fun y hy hm => by
    have h8 := S1.out.slt hy
    have h9 := hf2 y hm
    omega)⟩
  have hpsw : W0.heap.size ≤ ps := hf1 ps (by simp [sbl])
  have hpkw : W1.heap.size ≤ pk := hf2 pk (by simp [sbl])
  have hbxn : bx ∉ [ps, pk] := by
    have := X0.out.lt
    have := K1.out.size
    simp only [List.mem_cons, List.not_mem_nil, or_false, not_or]
    omega
  have HPW : Hid (∀ x, x ∈ [ps, pk] → w.heap.size ≤ x) := Lib.hid (fun x hx => by
    have := K0.out.size
    have := K01.out.size
    simp only [List.mem_cons, List.not_mem_nil, or_false] at hx
    omega)
  have XT : Hid (∀ {wr : World} {l lk : Ly} {S : Sr} {K : Sk}, Both W1 wr ps pk F c l lk S K → Blk wr bx 71 #[.slice X F.length xc, .int .i64 c, .slice U un uc, .slice V vn vc]) := Lib.hid (fun h => X1.out.keepS h.kw hbxn)
  have KT : Hid (∀ {wr : World} {l lk : Ly} {S : Sr} {K : Sk}, Both W1 wr ps pk F c l lk S K → Keep w.heap.size [] w wr) := Lib.hid (fun h => K01.out.chain (Nat.le_refl _) h.kw HPW.out)
  clear zc0 zc1 zc2 zi0 zi1 hs2 hk2 hf1 hf2 hbxn hpsw hpkw
  go_wp2_with fail
  go_loopw [9, 10] (fun ss tt wr => ∃ (t : Nat) (l lk : Ly) (S : Sr) (K : Sk), t ≤ 400 ∧ tt = .int .i64 t ∧ ss = .int .i64 (if K.ph = 2 then 1 else 0) ∧ Inv F c (t - 1) S K ∧ Jn F c t S K ∧ Both W1 wr ps pk F c l lk S K) (fun _ tt _ => 400 - (intOf tt).toNat)
  case atStart => exact ⟨0, l, lk, sr0, sk0, by omega, rfl, rfl, inv0 F c, jn0 F c, BO2.out⟩
  case round =>
    obtain ⟨t, l, lk, S, K, ht, rfl, rfl, hinv, hjn, hbo⟩ := hrel
    have HIN := Lib.hid hinv
    have HJN := Lib.hid hjn
    have BO := Lib.hid hbo
    clear hinv hjn hbo BO2
    by_cases hlt : t < 400
    · have hki : (t : Int) < 400 := by omega
      have hT1 : t - 1 ≤ t := by omega
      rcases HIN.out.ph with hkp | hkp
      · rw [if_neg (show ¬ K.ph = 2 by omega)]
        go_wp2_with fail
        refine (snext_w _ ps F c l S t (t - 1) hT1 (by omega) HIN.out.s hc hc2 hn HO.out BO.out.s).mono ?_
        rintro e W3 ⟨l3, S3, o, hnx, hs3, hk3, hres, hly⟩
        have BO3 := Lib.hid (BO.out.src hk3 hs3 hly)
        have HNX := Lib.hid hnx
        obtain ⟨_, xh, okh⟩ := half1 (by omega) hT1 HIN.out.s HIN.out.x hnx
        have XH := Lib.hid xh
        have OKH := Lib.hid okh
        clear hs3 hk3 hly hnx xh okh
        cases o with
        | none =>
          have hres : e = _ := hres
          subst hres
          unfold pcs
          go_upto_region 14 with fail
          obtain ⟨W5, q5, hW9, hq9, bq9, ka9⟩ := newU W3 zP zL
          change Code.wp _ _ _ _ (W3.alloc (.cells (pcs zP zL) TP))
          rw [← hW9, ← hq9]
          clear hW9 hq9
          have BO5 := Lib.hid (BO3.out.keep0 ka9)
          clear bq9 ka9
          obtain ⟨up, hup⟩ : ∃ b, b = false := ⟨_, rfl⟩
          have UPF : Hid (50 ≤ t → up = false) := Lib.hid (fun _ => hup)
          have GOT : Hid (Got1 F t up K none K) := Lib.hid (.inl ⟨rfl, .inl rfl⟩)
          clear hup
          obtain ⟨K5, hK5⟩ : ∃ x, x = K := ⟨_, rfl⟩
          obtain ⟨lk5, hlk5⟩ : ∃ x, x = lk := ⟨_, rfl⟩
          rw [← hK5, ← hlk5] at BO5
          have GOT2 : Hid (Got1 F t up K none K5) := Lib.hid (hK5 ▸ GOT.out)
          clear GOT hlk5 hK5
          have GOT := GOT2
          clear GOT2
          go_wp2_with fail
          obtain ⟨is5, ik5, xr5⟩ := got1_x (by omega) hT1 HIN.out HNX.out GOT.out
          have IS3 := Lib.hid is5
          have XR5 := Lib.hid xr5
          have IK5 := Lib.hid ik5
          clear is5 ik5 xr5
          rcases (got1_back GOT.out).1 hkp with hk5 | hk5
          · refine (kfile_0 _ pk F c lk5 K5 hk5 BO5.out.k.blk).mono ?_
            rintro e W6 ⟨rfl, rfl⟩
            have BO6 := BO5
            have ecl : cls t K5 = K5 := cls_same (by omega)
            have IK6 : Hid (IK F c t (cls t K5)) := Lib.hid (by rw [ecl]; exact IK5.out)
            have XR6 : Hid (XR S3 (cls t K5)) := Lib.hid (by rw [ecl]; exact XR5.out)
            have hk6 : (cls t K5).ph = 0 := by rw [ecl]; exact hk5
            have hp6 : (cls t K5).ph = 0 ∨ (cls t K5).ph = 2 := .inl hk6
            rw [← ecl] at BO6
            go_wp2_with fail
            refine (knext_w _ pk F c lk5 (cls t K5) t t (Nat.le_refl _) (by omega) IK6.out hn hp6 BO6.out.k).mono ?_
            rintro e W7 ⟨K7, o', hnk, hs7, hk7, hres7⟩
            have BO7 := Lib.hid (BO6.out.snk1 hk7 hs7)
            obtain ⟨i7, x7, ok7, p7, _⟩ := half4 (by omega) (Nat.le_refl t) IK6.out XR6.out hnk
            have IK7 := Lib.hid i7
            have XR7 := Lib.hid x7
            have OK7 := Lib.hid ok7
            have HNK := Lib.hid hnk
            have HP7 : Hid (K7.ph = 0) := Lib.hid (by rw [p7]; exact hk6)
            clear hs7 hk7 i7 x7 ok7 p7 hnk
            cases o' with
            | none =>
              have hres7 : e = _ := hres7
              subst hres7
              unfold pcs
              go_upto_region 22 with fail
              obtain ⟨W8, q8, hW9, hq9, bq9, ka9⟩ := newU W7 zP zL
              change Code.wp _ _ _ _ (W7.alloc (.cells (pcs zP zL) TP))
              rw [← hW9, ← hq9]
              clear hW9 hq9
              have BO9 := Lib.hid (BO7.out.keep0 ka9)
              clear bq9 ka9
              go_wp2_with fail
              go_roundw
              case rel =>
                have hr : Rnd F c t up false S K S3 K7 := ⟨_, _, _, _, HNX.out, GOT.out, HNK.out, .inl ⟨rfl, .inl rfl⟩⟩
                refine ⟨t + 1, l3, lk5, S3, K7, by omega, by go_num, by rw [HP7.out]; rfl, rnd_inv (by omega) hT1 HIN.out hr, rnd_go hc hn (fun h50 => ⟨UPF.out h50, rfl⟩) HIN.out HJN.out hr, BO9.out⟩
              case measure => simp [intOf] <;> omega
            | some u7 =>
              obtain ⟨lu7, rfl, hpin7, hfr7⟩ := hres7
              unfold pcs
              go_upto_region 22 with fail
              obtain ⟨W8, q8, hW9, hq9, bq9, ka9⟩ := newU W7 (upd F u7) lu7
              change Code.wp _ _ _ _ (W7.alloc (.cells (pcs (upd F u7) lu7) TP))
              rw [← hW9, ← hq9]
              clear hW9 hq9
              have BO8 := Lib.hid (BO7.out.keep0 ka9)
              have PI8 := Lib.hid (hpin7.keep0 ka9)
              have BQ8 := Lib.hid bq9
              have FR7 := Lib.hid hfr7
              clear bq9 ka9 hpin7 hfr7
              have y3 : W8.cell? ⟨bx, 3, none⟩ = some (.slice V vn vc) := (XT.out BO8.out).cell 3
              go_wp2_with fail
              refine (lost_w _ V vn vc bv t (by omega) hVc.1 (by exact HV.out.keep0 (KT.out BO8.out))).mono ?_
              rintro e W8 ⟨⟨v7, rfl, hv7⟩, rfl⟩
              have DNV := Lib.hid hv7
              clear hv7
              cases v7
              · have zs0 : W8.cell? ⟨q8, 0, none⟩ = some (.int .i64 (upd F u7).kind) := BQ8.out.cell 0
                have zs1 : W8.cell? ⟨q8, 1, none⟩ = some (.int .i64 (upd F u7).src) := BQ8.out.cell 1
                have zs2 : W8.cell? ⟨q8, 2, none⟩ = some (.int .i64 (upd F u7).num) := BQ8.out.cell 2
                have zs3 : W8.cell? ⟨q8, 3, none⟩ = some (.int .i64 (upd F u7).cls) := BQ8.out.cell 3
                have zs4 : W8.cell? ⟨q8, 4, none⟩ = some (.string (strOfNums (upd F u7).name)) := BQ8.out.cell 4
                have zs5 : W8.cell? ⟨q8, 5, none⟩ = some (.int .i64 (upd F u7).size) := BQ8.out.cell 5
                have zs6 : W8.cell? ⟨q8, 6, none⟩ = some (.int .i64 (upd F u7).off) := BQ8.out.cell 6
                have zs7 : W8.cell? ⟨q8, 7, none⟩ = some (.slice lu7.D lu7.dn lu7.dc) := BQ8.out.cell 7
                have zs8 : W8.cell? ⟨q8, 8, none⟩ = some (.int .u32 (upd F u7).sum) := BQ8.out.cell 8
                have zs9 : W8.cell? ⟨q8, 9, none⟩ = some (.int .i64 (upd F u7).code) := BQ8.out.cell 9
                have zs10 : W8.cell? ⟨q8, 10, none⟩ = some (.slice lu7.G lu7.gn lu7.gc) := BQ8.out.cell 10
                go_wp2_with fail
                clear zs0 zs1 zs2 zs3 zs4 zs5 zs6 zs7 zs8 zs9 zs10
                refine (stake_any _ ps F c l3 S3 K7 u7 lu7 t t (Nat.le_refl _) (by omega) IS3.out hn (okk_ph OK7.out XR7.out IK7.out) OK7.out BO8.out.s PI8.out (fun hm => by have := FR7.out ps hm; have := BO6.out.s.blk.lt; omega)).mono ?_
                rintro e W9 ⟨l9, S9, rfl, htk, hs9, hk9, hly9⟩
                have BO9 := Lib.hid (BO8.out.src hk9 hs9 hly9)
                have HTK := Lib.hid htk
                clear hs9 hk9 hly9 htk y3
                go_wp2_with fail
                go_roundw
                case rel =>
                  have hr : Rnd F c t up false S K S9 K7 := ⟨_, _, _, _, HNX.out, GOT.out, HNK.out, .inr ⟨_, rfl, rfl, HTK.out⟩⟩
                  refine ⟨t + 1, l9, lk5, S9, K7, by omega, by go_num, by rw [HP7.out]; rfl, rnd_inv (by omega) hT1 HIN.out hr, rnd_go hc hn (fun h50 => ⟨UPF.out h50, rfl⟩) HIN.out HJN.out hr, BO9.out⟩
                case measure => simp [intOf] <;> omega
              · have DNF : Hid (50 ≤ t → true = false) := Lib.hid (fun h50 => DNV.out (by omega))
                have BO9 := BO8
                clear y3
                go_wp2_with fail
                go_roundw
                case rel =>
                  have hr : Rnd F c t up true S K S3 K7 := ⟨_, _, _, _, HNX.out, GOT.out, HNK.out, .inl ⟨rfl, .inr rfl⟩⟩
                  refine ⟨t + 1, l3, lk5, S3, K7, by omega, by go_num, by rw [HP7.out]; rfl, rnd_inv (by omega) hT1 HIN.out hr, rnd_go hc hn (fun h50 => ⟨UPF.out h50, DNF.out h50⟩) HIN.out HJN.out hr, BO9.out⟩
                case measure => simp [intOf] <;> omega
          · have hal5 := IK5.out.all (by omega)
            have hdat : K5.dat = F := dat_eq IK5.out hal5.2.2
            refine (kfile_1 _ pk F c lk5 K5 (.inl hk5) hal5.1 (by have := IK5.out.dl; omega) (BO5.out.k.data.vw (by omega)) BO5.out.k.blk).mono ?_
            rintro e W6 ⟨X6, xc6, rfl, hs6, hk6', hf6⟩
            rw [hdat] at hs6
            rw [show K5.dat.length = F.length by rw [hdat], plan_lit]
            have BOf := Lib.hid (BO5.out.keep0 hk6')
            have q1 := conv_str (P := Try.prog) (w := W6) 35 9 5 Try.underlying35 Try.underlying5 Try.underlying9 X6 F.length xc6 F (hs6.vw (by omega))
            have q2 := conv_str (P := Try.prog) (w := W6) 35 9 5 Try.underlying35 Try.underlying5 Try.underlying9 X F.length xc F (HX.out.keep0 (KT.out BOf.out))
            have y0 : W6.cell? ⟨bx, 0, none⟩ = some (.slice X F.length xc) := (XT.out BOf.out).cell 0
            clear hs6 hk6' hf6 hal5 hdat
            go_wp2_with fail
            refine (kclose_w _ pk F c lk5 K5 t IK5.out.now (by omega) hk5 BOf.out.k.blk).mono ?_
            rintro e Wc ⟨rfl, hbc, hkc⟩
            have ecl : cls t K5 = { K5 with now := t, ph := 2, dd := true, tm := t, tr := 0 } := if_pos hk5
            have BO6 : Hid (Both W1 Wc ps pk F c l3 lk5 S3 (cls t K5)) := Lib.hid (by rw [ecl]; exact BOf.out.snk1 hkc (BOf.out.k.same rfl rfl hbc hkc))
            obtain ⟨i6, x6, _⟩ := half3 (Nat.le_refl t) IK5.out XR5.out
            have IK6 := Lib.hid i6
            have XR6 := Lib.hid x6
            have hk6 : (cls t K5).ph = 2 := by rw [ecl]
            have hp6 : (cls t K5).ph = 0 ∨ (cls t K5).ph = 2 := .inr hk6
            clear hbc hkc i6 x6 q1 q2 y0
            go_wp2_with fail
            refine (knext_w _ pk F c lk5 (cls t K5) t t (Nat.le_refl _) (by omega) IK6.out hn hp6 BO6.out.k).mono ?_
            rintro e W7 ⟨K7, o', hnk, hs7, hk7, hres7⟩
            have BO7 := Lib.hid (BO6.out.snk1 hk7 hs7)
            obtain ⟨i7, x7, ok7, p7, _⟩ := half4 (by omega) (Nat.le_refl t) IK6.out XR6.out hnk
            have IK7 := Lib.hid i7
            have XR7 := Lib.hid x7
            have OK7 := Lib.hid ok7
            have HNK := Lib.hid hnk
            have HP7 : Hid (K7.ph = 2) := Lib.hid (by rw [p7]; exact hk6)
            clear hs7 hk7 i7 x7 ok7 p7 hnk
            cases o' with
            | none =>
              have hres7 : e = _ := hres7
              subst hres7
              unfold pcs
              go_upto_region 22 with fail
              obtain ⟨W8, q8, hW9, hq9, bq9, ka9⟩ := newU W7 zP zL
              change Code.wp _ _ _ _ (W7.alloc (.cells (pcs zP zL) TP))
              rw [← hW9, ← hq9]
              clear hW9 hq9
              have BO9 := Lib.hid (BO7.out.keep0 ka9)
              clear bq9 ka9
              go_wp2_with fail
              go_roundw
              case rel =>
                have hr : Rnd F c t up false S K S3 K7 := ⟨_, _, _, _, HNX.out, GOT.out, HNK.out, .inl ⟨rfl, .inl rfl⟩⟩
                refine ⟨t + 1, l3, lk5, S3, K7, by omega, by go_num, by rw [HP7.out]; rfl, rnd_inv (by omega) hT1 HIN.out hr, rnd_go hc hn (fun h50 => ⟨UPF.out h50, rfl⟩) HIN.out HJN.out hr, BO9.out⟩
              case measure => simp [intOf] <;> omega
            | some u7 =>
              obtain ⟨lu7, rfl, hpin7, hfr7⟩ := hres7
              unfold pcs
              go_upto_region 22 with fail
              obtain ⟨W8, q8, hW9, hq9, bq9, ka9⟩ := newU W7 (upd F u7) lu7
              change Code.wp _ _ _ _ (W7.alloc (.cells (pcs (upd F u7) lu7) TP))
              rw [← hW9, ← hq9]
              clear hW9 hq9
              have BO8 := Lib.hid (BO7.out.keep0 ka9)
              have PI8 := Lib.hid (hpin7.keep0 ka9)
              have BQ8 := Lib.hid bq9
              have FR7 := Lib.hid hfr7
              clear bq9 ka9 hpin7 hfr7
              have y3 : W8.cell? ⟨bx, 3, none⟩ = some (.slice V vn vc) := (XT.out BO8.out).cell 3
              go_wp2_with fail
              refine (lost_w _ V vn vc bv t (by omega) hVc.1 (by exact HV.out.keep0 (KT.out BO8.out))).mono ?_
              rintro e W8 ⟨⟨v7, rfl, hv7⟩, rfl⟩
              have DNV := Lib.hid hv7
              clear hv7
              cases v7
              · have zs0 : W8.cell? ⟨q8, 0, none⟩ = some (.int .i64 (upd F u7).kind) := BQ8.out.cell 0
                have zs1 : W8.cell? ⟨q8, 1, none⟩ = some (.int .i64 (upd F u7).src) := BQ8.out.cell 1
                have zs2 : W8.cell? ⟨q8, 2, none⟩ = some (.int .i64 (upd F u7).num) := BQ8.out.cell 2
                have zs3 : W8.cell? ⟨q8, 3, none⟩ = some (.int .i64 (upd F u7).cls) := BQ8.out.cell 3
                have zs4 : W8.cell? ⟨q8, 4, none⟩ = some (.string (strOfNums (upd F u7).name)) := BQ8.out.cell 4
                have zs5 : W8.cell? ⟨q8, 5, none⟩ = some (.int .i64 (upd F u7).size) := BQ8.out.cell 5
                have zs6 : W8.cell? ⟨q8, 6, none⟩ = some (.int .i64 (upd F u7).off) := BQ8.out.cell 6
                have zs7 : W8.cell? ⟨q8, 7, none⟩ = some (.slice lu7.D lu7.dn lu7.dc) := BQ8.out.cell 7
                have zs8 : W8.cell? ⟨q8, 8, none⟩ = some (.int .u32 (upd F u7).sum) := BQ8.out.cell 8
                have zs9 : W8.cell? ⟨q8, 9, none⟩ = some (.int .i64 (upd F u7).code) := BQ8.out.cell 9
                have zs10 : W8.cell? ⟨q8, 10, none⟩ = some (.slice lu7.G lu7.gn lu7.gc) := BQ8.out.cell 10
                go_wp2_with fail
                clear zs0 zs1 zs2 zs3 zs4 zs5 zs6 zs7 zs8 zs9 zs10
                refine (stake_any _ ps F c l3 S3 K7 u7 lu7 t t (Nat.le_refl _) (by omega) IS3.out hn (okk_ph OK7.out XR7.out IK7.out) OK7.out BO8.out.s PI8.out (fun hm => by have := FR7.out ps hm; have := BO6.out.s.blk.lt; omega)).mono ?_
                rintro e W9 ⟨l9, S9, rfl, htk, hs9, hk9, hly9⟩
                have BO9 := Lib.hid (BO8.out.src hk9 hs9 hly9)
                have HTK := Lib.hid htk
                clear hs9 hk9 hly9 htk y3
                go_wp2_with fail
                go_roundw
                case rel =>
                  have hr : Rnd F c t up false S K S9 K7 := ⟨_, _, _, _, HNX.out, GOT.out, HNK.out, .inr ⟨_, rfl, rfl, HTK.out⟩⟩
                  refine ⟨t + 1, l9, lk5, S9, K7, by omega, by go_num, by rw [HP7.out]; rfl, rnd_inv (by omega) hT1 HIN.out hr, rnd_go hc hn (fun h50 => ⟨UPF.out h50, rfl⟩) HIN.out HJN.out hr, BO9.out⟩
                case measure => simp [intOf] <;> omega
              · have DNF : Hid (50 ≤ t → true = false) := Lib.hid (fun h50 => DNV.out (by omega))
                have BO9 := BO8
                clear y3
                go_wp2_with fail
                go_roundw
                case rel =>
                  have hr : Rnd F c t up true S K S3 K7 := ⟨_, _, _, _, HNX.out, GOT.out, HNK.out, .inl ⟨rfl, .inr rfl⟩⟩
                  refine ⟨t + 1, l3, lk5, S3, K7, by omega, by go_num, by rw [HP7.out]; rfl, rnd_inv (by omega) hT1 HIN.out hr, rnd_go hc hn (fun h50 => ⟨UPF.out h50, DNF.out h50⟩) HIN.out HJN.out hr, BO9.out⟩
                case measure => simp [intOf] <;> omega
        | some u =>
          obtain ⟨lu, rfl, hpin, hfr⟩ := hres
          unfold pcs
          go_upto_region 14 with fail
          obtain ⟨W4, q4, hW9, hq9, bq9, ka9⟩ := newU W3 (upd F u) lu
          change Code.wp _ _ _ _ (W3.alloc (.cells (pcs (upd F u) lu) TP))
          rw [← hW9, ← hq9]
          clear hW9 hq9
          have BO4 := Lib.hid (BO3.out.keep0 ka9)
          have PI4 := Lib.hid (hpin.keep0 ka9)
          have BQ4 := Lib.hid bq9
          have FR3 := Lib.hid hfr
          clear bq9 ka9 hpin hfr
          have y2 : W4.cell? ⟨bx, 2, none⟩ = some (.slice U un uc) := (XT.out BO4.out).cell 2
          go_wp2_with fail
          refine (lost_w _ U un uc bu t (by omega) hUc.1 (by exact HU.out.keep0 (KT.out BO4.out))).mono ?_
          rintro e W4 ⟨⟨v, rfl, hv⟩, rfl⟩
          have UPV := Lib.hid hv
          clear hv
          cases v
          · have zk0 : W4.cell? ⟨q4, 0, none⟩ = some (.int .i64 (upd F u).kind) := BQ4.out.cell 0
            have zk1 : W4.cell? ⟨q4, 1, none⟩ = some (.int .i64 (upd F u).src) := BQ4.out.cell 1
            have zk2 : W4.cell? ⟨q4, 2, none⟩ = some (.int .i64 (upd F u).num) := BQ4.out.cell 2
            have zk3 : W4.cell? ⟨q4, 3, none⟩ = some (.int .i64 (upd F u).cls) := BQ4.out.cell 3
            have zk4 : W4.cell? ⟨q4, 4, none⟩ = some (.string (strOfNums (upd F u).name)) := BQ4.out.cell 4
            have zk5 : W4.cell? ⟨q4, 5, none⟩ = some (.int .i64 (upd F u).size) := BQ4.out.cell 5
            have zk6 : W4.cell? ⟨q4, 6, none⟩ = some (.int .i64 (upd F u).off) := BQ4.out.cell 6
            have zk7 : W4.cell? ⟨q4, 7, none⟩ = some (.slice lu.D lu.dn lu.dc) := BQ4.out.cell 7
            have zk8 : W4.cell? ⟨q4, 8, none⟩ = some (.int .u32 (upd F u).sum) := BQ4.out.cell 8
            have zk9 : W4.cell? ⟨q4, 9, none⟩ = some (.int .i64 (upd F u).code) := BQ4.out.cell 9
            have zk10 : W4.cell? ⟨q4, 10, none⟩ = some (.slice lu.G lu.gn lu.gc) := BQ4.out.cell 10
            go_wp2_with fail
            clear zk0 zk1 zk2 zk3 zk4 zk5 zk6 zk7 zk8 zk9 zk10
            refine (ktake_any _ pk F c lk K S3 u lu t (t - 1) hT1 (by omega) HIN.out.k XH.out hc hn HO.out HIN.out.ph OKH.out BO4.out.k PI4.out (fun y hy hm => by have := FR3.out y hy; have := BO.out.k.slt hm; omega)).mono ?_
            rintro e W5 ⟨lk5, Kr, rfl, hrc, hs5, hk5', hf5⟩
            have BO5 : Hid (Both W1 W5 ps pk F c l3 lk5 S3 (chk F.length Kr)) := Lib.hid (BO4.out.snk hk5' hs5 hf5)
            have GOT : Hid (Got1 F t false K (some u) (chk F.length Kr)) := Lib.hid (.inr ⟨_, _, rfl, rfl, hrc, rfl⟩)
            obtain ⟨K5, hK5⟩ : ∃ x, x = chk F.length Kr := ⟨_, rfl⟩
            rw [← hK5] at BO5 GOT
            obtain ⟨up, hup⟩ : ∃ b, b = false := ⟨_, rfl⟩
            rw [← hup] at GOT
            have UPF : Hid (50 ≤ t → up = false) := Lib.hid (fun _ => hup)
            clear hs5 hk5' hf5 hrc hK5 hup y2
            go_wp2_with fail
            obtain ⟨is5, ik5, xr5⟩ := got1_x (by omega) hT1 HIN.out HNX.out GOT.out
            have IS3 := Lib.hid is5
            have XR5 := Lib.hid xr5
            have IK5 := Lib.hid ik5
            clear is5 ik5 xr5
            rcases (got1_back GOT.out).1 hkp with hk5 | hk5
            · refine (kfile_0 _ pk F c lk5 K5 hk5 BO5.out.k.blk).mono ?_
              rintro e W6 ⟨rfl, rfl⟩
              have BO6 := BO5
              have ecl : cls t K5 = K5 := cls_same (by omega)
              have IK6 : Hid (IK F c t (cls t K5)) := Lib.hid (by rw [ecl]; exact IK5.out)
              have XR6 : Hid (XR S3 (cls t K5)) := Lib.hid (by rw [ecl]; exact XR5.out)
              have hk6 : (cls t K5).ph = 0 := by rw [ecl]; exact hk5
              have hp6 : (cls t K5).ph = 0 ∨ (cls t K5).ph = 2 := .inl hk6
              rw [← ecl] at BO6
              go_wp2_with fail
              refine (knext_w _ pk F c lk5 (cls t K5) t t (Nat.le_refl _) (by omega) IK6.out hn hp6 BO6.out.k).mono ?_
              rintro e W7 ⟨K7, o', hnk, hs7, hk7, hres7⟩
              have BO7 := Lib.hid (BO6.out.snk1 hk7 hs7)
              obtain ⟨i7, x7, ok7, p7, _⟩ := half4 (by omega) (Nat.le_refl t) IK6.out XR6.out hnk
              have IK7 := Lib.hid i7
              have XR7 := Lib.hid x7
              have OK7 := Lib.hid ok7
              have HNK := Lib.hid hnk
              have HP7 : Hid (K7.ph = 0) := Lib.hid (by rw [p7]; exact hk6)
              clear hs7 hk7 i7 x7 ok7 p7 hnk
              cases o' with
              | none =>
                have hres7 : e = _ := hres7
                subst hres7
                unfold pcs
                go_upto_region 22 with fail
                obtain ⟨W8, q8, hW9, hq9, bq9, ka9⟩ := newU W7 zP zL
                change Code.wp _ _ _ _ (W7.alloc (.cells (pcs zP zL) TP))
                rw [← hW9, ← hq9]
                clear hW9 hq9
                have BO9 := Lib.hid (BO7.out.keep0 ka9)
                clear bq9 ka9
                go_wp2_with fail
                go_roundw
                case rel =>
                  have hr : Rnd F c t up false S K S3 K7 := ⟨_, _, _, _, HNX.out, GOT.out, HNK.out, .inl ⟨rfl, .inl rfl⟩⟩
                  refine ⟨t + 1, l3, lk5, S3, K7, by omega, by go_num, by rw [HP7.out]; rfl, rnd_inv (by omega) hT1 HIN.out hr, rnd_go hc hn (fun h50 => ⟨UPF.out h50, rfl⟩) HIN.out HJN.out hr, BO9.out⟩
                case measure => simp [intOf] <;> omega
              | some u7 =>
                obtain ⟨lu7, rfl, hpin7, hfr7⟩ := hres7
                unfold pcs
                go_upto_region 22 with fail
                obtain ⟨W8, q8, hW9, hq9, bq9, ka9⟩ := newU W7 (upd F u7) lu7
                change Code.wp _ _ _ _ (W7.alloc (.cells (pcs (upd F u7) lu7) TP))
                rw [← hW9, ← hq9]
                clear hW9 hq9
                have BO8 := Lib.hid (BO7.out.keep0 ka9)
                have PI8 := Lib.hid (hpin7.keep0 ka9)
                have BQ8 := Lib.hid bq9
                have FR7 := Lib.hid hfr7
                clear bq9 ka9 hpin7 hfr7
                have y3 : W8.cell? ⟨bx, 3, none⟩ = some (.slice V vn vc) := (XT.out BO8.out).cell 3
                go_wp2_with fail
                refine (lost_w _ V vn vc bv t (by omega) hVc.1 (by exact HV.out.keep0 (KT.out BO8.out))).mono ?_
                rintro e W8 ⟨⟨v7, rfl, hv7⟩, rfl⟩
                have DNV := Lib.hid hv7
                clear hv7
                cases v7
                · have zs0 : W8.cell? ⟨q8, 0, none⟩ = some (.int .i64 (upd F u7).kind) := BQ8.out.cell 0
                  have zs1 : W8.cell? ⟨q8, 1, none⟩ = some (.int .i64 (upd F u7).src) := BQ8.out.cell 1
                  have zs2 : W8.cell? ⟨q8, 2, none⟩ = some (.int .i64 (upd F u7).num) := BQ8.out.cell 2
                  have zs3 : W8.cell? ⟨q8, 3, none⟩ = some (.int .i64 (upd F u7).cls) := BQ8.out.cell 3
                  have zs4 : W8.cell? ⟨q8, 4, none⟩ = some (.string (strOfNums (upd F u7).name)) := BQ8.out.cell 4
                  have zs5 : W8.cell? ⟨q8, 5, none⟩ = some (.int .i64 (upd F u7).size) := BQ8.out.cell 5
                  have zs6 : W8.cell? ⟨q8, 6, none⟩ = some (.int .i64 (upd F u7).off) := BQ8.out.cell 6
                  have zs7 : W8.cell? ⟨q8, 7, none⟩ = some (.slice lu7.D lu7.dn lu7.dc) := BQ8.out.cell 7
                  have zs8 : W8.cell? ⟨q8, 8, none⟩ = some (.int .u32 (upd F u7).sum) := BQ8.out.cell 8
                  have zs9 : W8.cell? ⟨q8, 9, none⟩ = some (.int .i64 (upd F u7).code) := BQ8.out.cell 9
                  have zs10 : W8.cell? ⟨q8, 10, none⟩ = some (.slice lu7.G lu7.gn lu7.gc) := BQ8.out.cell 10
                  go_wp2_with fail
                  clear zs0 zs1 zs2 zs3 zs4 zs5 zs6 zs7 zs8 zs9 zs10
                  refine (stake_any _ ps F c l3 S3 K7 u7 lu7 t t (Nat.le_refl _) (by omega) IS3.out hn (okk_ph OK7.out XR7.out IK7.out) OK7.out BO8.out.s PI8.out (fun hm => by have := FR7.out ps hm; have := BO6.out.s.blk.lt; omega)).mono ?_
                  rintro e W9 ⟨l9, S9, rfl, htk, hs9, hk9, hly9⟩
                  have BO9 := Lib.hid (BO8.out.src hk9 hs9 hly9)
                  have HTK := Lib.hid htk
                  clear hs9 hk9 hly9 htk y3
                  go_wp2_with fail
                  go_roundw
                  case rel =>
                    have hr : Rnd F c t up false S K S9 K7 := ⟨_, _, _, _, HNX.out, GOT.out, HNK.out, .inr ⟨_, rfl, rfl, HTK.out⟩⟩
                    refine ⟨t + 1, l9, lk5, S9, K7, by omega, by go_num, by rw [HP7.out]; rfl, rnd_inv (by omega) hT1 HIN.out hr, rnd_go hc hn (fun h50 => ⟨UPF.out h50, rfl⟩) HIN.out HJN.out hr, BO9.out⟩
                  case measure => simp [intOf] <;> omega
                · have DNF : Hid (50 ≤ t → true = false) := Lib.hid (fun h50 => DNV.out (by omega))
                  have BO9 := BO8
                  clear y3
                  go_wp2_with fail
                  go_roundw
                  case rel =>
                    have hr : Rnd F c t up true S K S3 K7 := ⟨_, _, _, _, HNX.out, GOT.out, HNK.out, .inl ⟨rfl, .inr rfl⟩⟩
                    refine ⟨t + 1, l3, lk5, S3, K7, by omega, by go_num, by rw [HP7.out]; rfl, rnd_inv (by omega) hT1 HIN.out hr, rnd_go hc hn (fun h50 => ⟨UPF.out h50, DNF.out h50⟩) HIN.out HJN.out hr, BO9.out⟩
                  case measure => simp [intOf] <;> omega
            · have hal5 := IK5.out.all (by omega)
              have hdat : K5.dat = F := dat_eq IK5.out hal5.2.2
              refine (kfile_1 _ pk F c lk5 K5 (.inl hk5) hal5.1 (by have := IK5.out.dl; omega) (BO5.out.k.data.vw (by omega)) BO5.out.k.blk).mono ?_
              rintro e W6 ⟨X6, xc6, rfl, hs6, hk6', hf6⟩
              rw [hdat] at hs6
              rw [show K5.dat.length = F.length by rw [hdat], plan_lit]
              have BOf := Lib.hid (BO5.out.keep0 hk6')
              have q1 := conv_str (P := Try.prog) (w := W6) 35 9 5 Try.underlying35 Try.underlying5 Try.underlying9 X6 F.length xc6 F (hs6.vw (by omega))
              have q2 := conv_str (P := Try.prog) (w := W6) 35 9 5 Try.underlying35 Try.underlying5 Try.underlying9 X F.length xc F (HX.out.keep0 (KT.out BOf.out))
              have y0 : W6.cell? ⟨bx, 0, none⟩ = some (.slice X F.length xc) := (XT.out BOf.out).cell 0
              clear hs6 hk6' hf6 hal5 hdat
              go_wp2_with fail
              refine (kclose_w _ pk F c lk5 K5 t IK5.out.now (by omega) hk5 BOf.out.k.blk).mono ?_
              rintro e Wc ⟨rfl, hbc, hkc⟩
              have ecl : cls t K5 = { K5 with now := t, ph := 2, dd := true, tm := t, tr := 0 } := if_pos hk5
              have BO6 : Hid (Both W1 Wc ps pk F c l3 lk5 S3 (cls t K5)) := Lib.hid (by rw [ecl]; exact BOf.out.snk1 hkc (BOf.out.k.same rfl rfl hbc hkc))
              obtain ⟨i6, x6, _⟩ := half3 (Nat.le_refl t) IK5.out XR5.out
              have IK6 := Lib.hid i6
              have XR6 := Lib.hid x6
              have hk6 : (cls t K5).ph = 2 := by rw [ecl]
              have hp6 : (cls t K5).ph = 0 ∨ (cls t K5).ph = 2 := .inr hk6
              clear hbc hkc i6 x6 q1 q2 y0
              go_wp2_with fail
              refine (knext_w _ pk F c lk5 (cls t K5) t t (Nat.le_refl _) (by omega) IK6.out hn hp6 BO6.out.k).mono ?_
              rintro e W7 ⟨K7, o', hnk, hs7, hk7, hres7⟩
              have BO7 := Lib.hid (BO6.out.snk1 hk7 hs7)
              obtain ⟨i7, x7, ok7, p7, _⟩ := half4 (by omega) (Nat.le_refl t) IK6.out XR6.out hnk
              have IK7 := Lib.hid i7
              have XR7 := Lib.hid x7
              have OK7 := Lib.hid ok7
              have HNK := Lib.hid hnk
              have HP7 : Hid (K7.ph = 2) := Lib.hid (by rw [p7]; exact hk6)
              clear hs7 hk7 i7 x7 ok7 p7 hnk
              cases o' with
              | none =>
                have hres7 : e = _ := hres7
                subst hres7
                unfold pcs
                go_upto_region 22 with fail
                obtain ⟨W8, q8, hW9, hq9, bq9, ka9⟩ := newU W7 zP zL
                change Code.wp _ _ _ _ (W7.alloc (.cells (pcs zP zL) TP))
                rw [← hW9, ← hq9]
                clear hW9 hq9
                have BO9 := Lib.hid (BO7.out.keep0 ka9)
                clear bq9 ka9
                go_wp2_with fail
                go_roundw
                case rel =>
                  have hr : Rnd F c t up false S K S3 K7 := ⟨_, _, _, _, HNX.out, GOT.out, HNK.out, .inl ⟨rfl, .inl rfl⟩⟩
                  refine ⟨t + 1, l3, lk5, S3, K7, by omega, by go_num, by rw [HP7.out]; rfl, rnd_inv (by omega) hT1 HIN.out hr, rnd_go hc hn (fun h50 => ⟨UPF.out h50, rfl⟩) HIN.out HJN.out hr, BO9.out⟩
                case measure => simp [intOf] <;> omega
              | some u7 =>
                obtain ⟨lu7, rfl, hpin7, hfr7⟩ := hres7
                unfold pcs
                go_upto_region 22 with fail
                obtain ⟨W8, q8, hW9, hq9, bq9, ka9⟩ := newU W7 (upd F u7) lu7
                change Code.wp _ _ _ _ (W7.alloc (.cells (pcs (upd F u7) lu7) TP))
                rw [← hW9, ← hq9]
                clear hW9 hq9
                have BO8 := Lib.hid (BO7.out.keep0 ka9)
                have PI8 := Lib.hid (hpin7.keep0 ka9)
                have BQ8 := Lib.hid bq9
                have FR7 := Lib.hid hfr7
                clear bq9 ka9 hpin7 hfr7
                have y3 : W8.cell? ⟨bx, 3, none⟩ = some (.slice V vn vc) := (XT.out BO8.out).cell 3
                go_wp2_with fail
                refine (lost_w _ V vn vc bv t (by omega) hVc.1 (by exact HV.out.keep0 (KT.out BO8.out))).mono ?_
                rintro e W8 ⟨⟨v7, rfl, hv7⟩, rfl⟩
                have DNV := Lib.hid hv7
                clear hv7
                cases v7
                · have zs0 : W8.cell? ⟨q8, 0, none⟩ = some (.int .i64 (upd F u7).kind) := BQ8.out.cell 0
                  have zs1 : W8.cell? ⟨q8, 1, none⟩ = some (.int .i64 (upd F u7).src) := BQ8.out.cell 1
                  have zs2 : W8.cell? ⟨q8, 2, none⟩ = some (.int .i64 (upd F u7).num) := BQ8.out.cell 2
                  have zs3 : W8.cell? ⟨q8, 3, none⟩ = some (.int .i64 (upd F u7).cls) := BQ8.out.cell 3
                  have zs4 : W8.cell? ⟨q8, 4, none⟩ = some (.string (strOfNums (upd F u7).name)) := BQ8.out.cell 4
                  have zs5 : W8.cell? ⟨q8, 5, none⟩ = some (.int .i64 (upd F u7).size) := BQ8.out.cell 5
                  have zs6 : W8.cell? ⟨q8, 6, none⟩ = some (.int .i64 (upd F u7).off) := BQ8.out.cell 6
                  have zs7 : W8.cell? ⟨q8, 7, none⟩ = some (.slice lu7.D lu7.dn lu7.dc) := BQ8.out.cell 7
                  have zs8 : W8.cell? ⟨q8, 8, none⟩ = some (.int .u32 (upd F u7).sum) := BQ8.out.cell 8
                  have zs9 : W8.cell? ⟨q8, 9, none⟩ = some (.int .i64 (upd F u7).code) := BQ8.out.cell 9
                  have zs10 : W8.cell? ⟨q8, 10, none⟩ = some (.slice lu7.G lu7.gn lu7.gc) := BQ8.out.cell 10
                  go_wp2_with fail
                  clear zs0 zs1 zs2 zs3 zs4 zs5 zs6 zs7 zs8 zs9 zs10
                  refine (stake_any _ ps F c l3 S3 K7 u7 lu7 t t (Nat.le_refl _) (by omega) IS3.out hn (okk_ph OK7.out XR7.out IK7.out) OK7.out BO8.out.s PI8.out (fun hm => by have := FR7.out ps hm; have := BO6.out.s.blk.lt; omega)).mono ?_
                  rintro e W9 ⟨l9, S9, rfl, htk, hs9, hk9, hly9⟩
                  have BO9 := Lib.hid (BO8.out.src hk9 hs9 hly9)
                  have HTK := Lib.hid htk
                  clear hs9 hk9 hly9 htk y3
                  go_wp2_with fail
                  go_roundw
                  case rel =>
                    have hr : Rnd F c t up false S K S9 K7 := ⟨_, _, _, _, HNX.out, GOT.out, HNK.out, .inr ⟨_, rfl, rfl, HTK.out⟩⟩
                    refine ⟨t + 1, l9, lk5, S9, K7, by omega, by go_num, by rw [HP7.out]; rfl, rnd_inv (by omega) hT1 HIN.out hr, rnd_go hc hn (fun h50 => ⟨UPF.out h50, rfl⟩) HIN.out HJN.out hr, BO9.out⟩
                  case measure => simp [intOf] <;> omega
                · have DNF : Hid (50 ≤ t → true = false) := Lib.hid (fun h50 => DNV.out (by omega))
                  have BO9 := BO8
                  clear y3
                  go_wp2_with fail
                  go_roundw
                  case rel =>
                    have hr : Rnd F c t up true S K S3 K7 := ⟨_, _, _, _, HNX.out, GOT.out, HNK.out, .inl ⟨rfl, .inr rfl⟩⟩
                    refine ⟨t + 1, l3, lk5, S3, K7, by omega, by go_num, by rw [HP7.out]; rfl, rnd_inv (by omega) hT1 HIN.out hr, rnd_go hc hn (fun h50 => ⟨UPF.out h50, DNF.out h50⟩) HIN.out HJN.out hr, BO9.out⟩
                  case measure => simp [intOf] <;> omega
          · have UPF0 : Hid (50 ≤ t → true = false) := Lib.hid (fun h50 => UPV.out (by omega))
            have GOT0 : Hid (Got1 F t true K (some u) K) := Lib.hid (.inl ⟨rfl, .inr rfl⟩)
            obtain ⟨up, hup⟩ : ∃ b, b = true := ⟨_, rfl⟩
            obtain ⟨K5, hK5⟩ : ∃ x, x = K := ⟨_, rfl⟩
            obtain ⟨lk5, hlk5⟩ : ∃ x, x = lk := ⟨_, rfl⟩
            have BO5 : Hid (Both W1 W4 ps pk F c l3 lk5 S3 K5) := Lib.hid (by rw [hK5, hlk5]; exact BO4.out)
            have GOT : Hid (Got1 F t up K (some u) K5) := Lib.hid (by rw [hup, hK5]; exact GOT0.out)
            have UPF : Hid (50 ≤ t → up = false) := Lib.hid (fun h50 => by rw [hup]; exact UPF0.out h50)
            clear GOT0 UPF0 hup hK5 hlk5 y2
            go_wp2_with fail
            obtain ⟨is5, ik5, xr5⟩ := got1_x (by omega) hT1 HIN.out HNX.out GOT.out
            have IS3 := Lib.hid is5
            have XR5 := Lib.hid xr5
            have IK5 := Lib.hid ik5
            clear is5 ik5 xr5
            rcases (got1_back GOT.out).1 hkp with hk5 | hk5
            · refine (kfile_0 _ pk F c lk5 K5 hk5 BO5.out.k.blk).mono ?_
              rintro e W6 ⟨rfl, rfl⟩
              have BO6 := BO5
              have ecl : cls t K5 = K5 := cls_same (by omega)
              have IK6 : Hid (IK F c t (cls t K5)) := Lib.hid (by rw [ecl]; exact IK5.out)
              have XR6 : Hid (XR S3 (cls t K5)) := Lib.hid (by rw [ecl]; exact XR5.out)
              have hk6 : (cls t K5).ph = 0 := by rw [ecl]; exact hk5
              have hp6 : (cls t K5).ph = 0 ∨ (cls t K5).ph = 2 := .inl hk6
              rw [← ecl] at BO6
              go_wp2_with fail
              refine (knext_w _ pk F c lk5 (cls t K5) t t (Nat.le_refl _) (by omega) IK6.out hn hp6 BO6.out.k).mono ?_
              rintro e W7 ⟨K7, o', hnk, hs7, hk7, hres7⟩
              have BO7 := Lib.hid (BO6.out.snk1 hk7 hs7)
              obtain ⟨i7, x7, ok7, p7, _⟩ := half4 (by omega) (Nat.le_refl t) IK6.out XR6.out hnk
              have IK7 := Lib.hid i7
              have XR7 := Lib.hid x7
              have OK7 := Lib.hid ok7
              have HNK := Lib.hid hnk
              have HP7 : Hid (K7.ph = 0) := Lib.hid (by rw [p7]; exact hk6)
              clear hs7 hk7 i7 x7 ok7 p7 hnk
              cases o' with
              | none =>
                have hres7 : e = _ := hres7
                subst hres7
                unfold pcs
                go_upto_region 22 with fail
                obtain ⟨W8, q8, hW9, hq9, bq9, ka9⟩ := newU W7 zP zL
                change Code.wp _ _ _ _ (W7.alloc (.cells (pcs zP zL) TP))
                rw [← hW9, ← hq9]
                clear hW9 hq9
                have BO9 := Lib.hid (BO7.out.keep0 ka9)
                clear bq9 ka9
                go_wp2_with fail
                go_roundw
                case rel =>
                  have hr : Rnd F c t up false S K S3 K7 := ⟨_, _, _, _, HNX.out, GOT.out, HNK.out, .inl ⟨rfl, .inl rfl⟩⟩
                  refine ⟨t + 1, l3, lk5, S3, K7, by omega, by go_num, by rw [HP7.out]; rfl, rnd_inv (by omega) hT1 HIN.out hr, rnd_go hc hn (fun h50 => ⟨UPF.out h50, rfl⟩) HIN.out HJN.out hr, BO9.out⟩
                case measure => simp [intOf] <;> omega
              | some u7 =>
                obtain ⟨lu7, rfl, hpin7, hfr7⟩ := hres7
                unfold pcs
                go_upto_region 22 with fail
                obtain ⟨W8, q8, hW9, hq9, bq9, ka9⟩ := newU W7 (upd F u7) lu7
                change Code.wp _ _ _ _ (W7.alloc (.cells (pcs (upd F u7) lu7) TP))
                rw [← hW9, ← hq9]
                clear hW9 hq9
                have BO8 := Lib.hid (BO7.out.keep0 ka9)
                have PI8 := Lib.hid (hpin7.keep0 ka9)
                have BQ8 := Lib.hid bq9
                have FR7 := Lib.hid hfr7
                clear bq9 ka9 hpin7 hfr7
                have y3 : W8.cell? ⟨bx, 3, none⟩ = some (.slice V vn vc) := (XT.out BO8.out).cell 3
                go_wp2_with fail
                refine (lost_w _ V vn vc bv t (by omega) hVc.1 (by exact HV.out.keep0 (KT.out BO8.out))).mono ?_
                rintro e W8 ⟨⟨v7, rfl, hv7⟩, rfl⟩
                have DNV := Lib.hid hv7
                clear hv7
                cases v7
                · have zs0 : W8.cell? ⟨q8, 0, none⟩ = some (.int .i64 (upd F u7).kind) := BQ8.out.cell 0
                  have zs1 : W8.cell? ⟨q8, 1, none⟩ = some (.int .i64 (upd F u7).src) := BQ8.out.cell 1
                  have zs2 : W8.cell? ⟨q8, 2, none⟩ = some (.int .i64 (upd F u7).num) := BQ8.out.cell 2
                  have zs3 : W8.cell? ⟨q8, 3, none⟩ = some (.int .i64 (upd F u7).cls) := BQ8.out.cell 3
                  have zs4 : W8.cell? ⟨q8, 4, none⟩ = some (.string (strOfNums (upd F u7).name)) := BQ8.out.cell 4
                  have zs5 : W8.cell? ⟨q8, 5, none⟩ = some (.int .i64 (upd F u7).size) := BQ8.out.cell 5
                  have zs6 : W8.cell? ⟨q8, 6, none⟩ = some (.int .i64 (upd F u7).off) := BQ8.out.cell 6
                  have zs7 : W8.cell? ⟨q8, 7, none⟩ = some (.slice lu7.D lu7.dn lu7.dc) := BQ8.out.cell 7
                  have zs8 : W8.cell? ⟨q8, 8, none⟩ = some (.int .u32 (upd F u7).sum) := BQ8.out.cell 8
                  have zs9 : W8.cell? ⟨q8, 9, none⟩ = some (.int .i64 (upd F u7).code) := BQ8.out.cell 9
                  have zs10 : W8.cell? ⟨q8, 10, none⟩ = some (.slice lu7.G lu7.gn lu7.gc) := BQ8.out.cell 10
                  go_wp2_with fail
                  clear zs0 zs1 zs2 zs3 zs4 zs5 zs6 zs7 zs8 zs9 zs10
                  refine (stake_any _ ps F c l3 S3 K7 u7 lu7 t t (Nat.le_refl _) (by omega) IS3.out hn (okk_ph OK7.out XR7.out IK7.out) OK7.out BO8.out.s PI8.out (fun hm => by have := FR7.out ps hm; have := BO6.out.s.blk.lt; omega)).mono ?_
                  rintro e W9 ⟨l9, S9, rfl, htk, hs9, hk9, hly9⟩
                  have BO9 := Lib.hid (BO8.out.src hk9 hs9 hly9)
                  have HTK := Lib.hid htk
                  clear hs9 hk9 hly9 htk y3
                  go_wp2_with fail
                  go_roundw
                  case rel =>
                    have hr : Rnd F c t up false S K S9 K7 := ⟨_, _, _, _, HNX.out, GOT.out, HNK.out, .inr ⟨_, rfl, rfl, HTK.out⟩⟩
                    refine ⟨t + 1, l9, lk5, S9, K7, by omega, by go_num, by rw [HP7.out]; rfl, rnd_inv (by omega) hT1 HIN.out hr, rnd_go hc hn (fun h50 => ⟨UPF.out h50, rfl⟩) HIN.out HJN.out hr, BO9.out⟩
                  case measure => simp [intOf] <;> omega
                · have DNF : Hid (50 ≤ t → true = false) := Lib.hid (fun h50 => DNV.out (by omega))
                  have BO9 := BO8
                  clear y3
                  go_wp2_with fail
                  go_roundw
                  case rel =>
                    have hr : Rnd F c t up true S K S3 K7 := ⟨_, _, _, _, HNX.out, GOT.out, HNK.out, .inl ⟨rfl, .inr rfl⟩⟩
                    refine ⟨t + 1, l3, lk5, S3, K7, by omega, by go_num, by rw [HP7.out]; rfl, rnd_inv (by omega) hT1 HIN.out hr, rnd_go hc hn (fun h50 => ⟨UPF.out h50, DNF.out h50⟩) HIN.out HJN.out hr, BO9.out⟩
                  case measure => simp [intOf] <;> omega
            · have hal5 := IK5.out.all (by omega)
              have hdat : K5.dat = F := dat_eq IK5.out hal5.2.2
              refine (kfile_1 _ pk F c lk5 K5 (.inl hk5) hal5.1 (by have := IK5.out.dl; omega) (BO5.out.k.data.vw (by omega)) BO5.out.k.blk).mono ?_
              rintro e W6 ⟨X6, xc6, rfl, hs6, hk6', hf6⟩
              rw [hdat] at hs6
              rw [show K5.dat.length = F.length by rw [hdat], plan_lit]
              have BOf := Lib.hid (BO5.out.keep0 hk6')
              have q1 := conv_str (P := Try.prog) (w := W6) 35 9 5 Try.underlying35 Try.underlying5 Try.underlying9 X6 F.length xc6 F (hs6.vw (by omega))
              have q2 := conv_str (P := Try.prog) (w := W6) 35 9 5 Try.underlying35 Try.underlying5 Try.underlying9 X F.length xc F (HX.out.keep0 (KT.out BOf.out))
              have y0 : W6.cell? ⟨bx, 0, none⟩ = some (.slice X F.length xc) := (XT.out BOf.out).cell 0
              clear hs6 hk6' hf6 hal5 hdat
              go_wp2_with fail
              refine (kclose_w _ pk F c lk5 K5 t IK5.out.now (by omega) hk5 BOf.out.k.blk).mono ?_
              rintro e Wc ⟨rfl, hbc, hkc⟩
              have ecl : cls t K5 = { K5 with now := t, ph := 2, dd := true, tm := t, tr := 0 } := if_pos hk5
              have BO6 : Hid (Both W1 Wc ps pk F c l3 lk5 S3 (cls t K5)) := Lib.hid (by rw [ecl]; exact BOf.out.snk1 hkc (BOf.out.k.same rfl rfl hbc hkc))
              obtain ⟨i6, x6, _⟩ := half3 (Nat.le_refl t) IK5.out XR5.out
              have IK6 := Lib.hid i6
              have XR6 := Lib.hid x6
              have hk6 : (cls t K5).ph = 2 := by rw [ecl]
              have hp6 : (cls t K5).ph = 0 ∨ (cls t K5).ph = 2 := .inr hk6
              clear hbc hkc i6 x6 q1 q2 y0
              go_wp2_with fail
              refine (knext_w _ pk F c lk5 (cls t K5) t t (Nat.le_refl _) (by omega) IK6.out hn hp6 BO6.out.k).mono ?_
              rintro e W7 ⟨K7, o', hnk, hs7, hk7, hres7⟩
              have BO7 := Lib.hid (BO6.out.snk1 hk7 hs7)
              obtain ⟨i7, x7, ok7, p7, _⟩ := half4 (by omega) (Nat.le_refl t) IK6.out XR6.out hnk
              have IK7 := Lib.hid i7
              have XR7 := Lib.hid x7
              have OK7 := Lib.hid ok7
              have HNK := Lib.hid hnk
              have HP7 : Hid (K7.ph = 2) := Lib.hid (by rw [p7]; exact hk6)
              clear hs7 hk7 i7 x7 ok7 p7 hnk
              cases o' with
              | none =>
                have hres7 : e = _ := hres7
                subst hres7
                unfold pcs
                go_upto_region 22 with fail
                obtain ⟨W8, q8, hW9, hq9, bq9, ka9⟩ := newU W7 zP zL
                change Code.wp _ _ _ _ (W7.alloc (.cells (pcs zP zL) TP))
                rw [← hW9, ← hq9]
                clear hW9 hq9
                have BO9 := Lib.hid (BO7.out.keep0 ka9)
                clear bq9 ka9
                go_wp2_with fail
                go_roundw
                case rel =>
                  have hr : Rnd F c t up false S K S3 K7 := ⟨_, _, _, _, HNX.out, GOT.out, HNK.out, .inl ⟨rfl, .inl rfl⟩⟩
                  refine ⟨t + 1, l3, lk5, S3, K7, by omega, by go_num, by rw [HP7.out]; rfl, rnd_inv (by omega) hT1 HIN.out hr, rnd_go hc hn (fun h50 => ⟨UPF.out h50, rfl⟩) HIN.out HJN.out hr, BO9.out⟩
                case measure => simp [intOf] <;> omega
              | some u7 =>
                obtain ⟨lu7, rfl, hpin7, hfr7⟩ := hres7
                unfold pcs
                go_upto_region 22 with fail
                obtain ⟨W8, q8, hW9, hq9, bq9, ka9⟩ := newU W7 (upd F u7) lu7
                change Code.wp _ _ _ _ (W7.alloc (.cells (pcs (upd F u7) lu7) TP))
                rw [← hW9, ← hq9]
                clear hW9 hq9
                have BO8 := Lib.hid (BO7.out.keep0 ka9)
                have PI8 := Lib.hid (hpin7.keep0 ka9)
                have BQ8 := Lib.hid bq9
                have FR7 := Lib.hid hfr7
                clear bq9 ka9 hpin7 hfr7
                have y3 : W8.cell? ⟨bx, 3, none⟩ = some (.slice V vn vc) := (XT.out BO8.out).cell 3
                go_wp2_with fail
                refine (lost_w _ V vn vc bv t (by omega) hVc.1 (by exact HV.out.keep0 (KT.out BO8.out))).mono ?_
                rintro e W8 ⟨⟨v7, rfl, hv7⟩, rfl⟩
                have DNV := Lib.hid hv7
                clear hv7
                cases v7
                · have zs0 : W8.cell? ⟨q8, 0, none⟩ = some (.int .i64 (upd F u7).kind) := BQ8.out.cell 0
                  have zs1 : W8.cell? ⟨q8, 1, none⟩ = some (.int .i64 (upd F u7).src) := BQ8.out.cell 1
                  have zs2 : W8.cell? ⟨q8, 2, none⟩ = some (.int .i64 (upd F u7).num) := BQ8.out.cell 2
                  have zs3 : W8.cell? ⟨q8, 3, none⟩ = some (.int .i64 (upd F u7).cls) := BQ8.out.cell 3
                  have zs4 : W8.cell? ⟨q8, 4, none⟩ = some (.string (strOfNums (upd F u7).name)) := BQ8.out.cell 4
                  have zs5 : W8.cell? ⟨q8, 5, none⟩ = some (.int .i64 (upd F u7).size) := BQ8.out.cell 5
                  have zs6 : W8.cell? ⟨q8, 6, none⟩ = some (.int .i64 (upd F u7).off) := BQ8.out.cell 6
                  have zs7 : W8.cell? ⟨q8, 7, none⟩ = some (.slice lu7.D lu7.dn lu7.dc) := BQ8.out.cell 7
                  have zs8 : W8.cell? ⟨q8, 8, none⟩ = some (.int .u32 (upd F u7).sum) := BQ8.out.cell 8
                  have zs9 : W8.cell? ⟨q8, 9, none⟩ = some (.int .i64 (upd F u7).code) := BQ8.out.cell 9
                  have zs10 : W8.cell? ⟨q8, 10, none⟩ = some (.slice lu7.G lu7.gn lu7.gc) := BQ8.out.cell 10
                  go_wp2_with fail
                  clear zs0 zs1 zs2 zs3 zs4 zs5 zs6 zs7 zs8 zs9 zs10
                  refine (stake_any _ ps F c l3 S3 K7 u7 lu7 t t (Nat.le_refl _) (by omega) IS3.out hn (okk_ph OK7.out XR7.out IK7.out) OK7.out BO8.out.s PI8.out (fun hm => by have := FR7.out ps hm; have := BO6.out.s.blk.lt; omega)).mono ?_
                  rintro e W9 ⟨l9, S9, rfl, htk, hs9, hk9, hly9⟩
                  have BO9 := Lib.hid (BO8.out.src hk9 hs9 hly9)
                  have HTK := Lib.hid htk
                  clear hs9 hk9 hly9 htk y3
                  go_wp2_with fail
                  go_roundw
                  case rel =>
                    have hr : Rnd F c t up false S K S9 K7 := ⟨_, _, _, _, HNX.out, GOT.out, HNK.out, .inr ⟨_, rfl, rfl, HTK.out⟩⟩
                    refine ⟨t + 1, l9, lk5, S9, K7, by omega, by go_num, by rw [HP7.out]; rfl, rnd_inv (by omega) hT1 HIN.out hr, rnd_go hc hn (fun h50 => ⟨UPF.out h50, rfl⟩) HIN.out HJN.out hr, BO9.out⟩
                  case measure => simp [intOf] <;> omega
                · have DNF : Hid (50 ≤ t → true = false) := Lib.hid (fun h50 => DNV.out (by omega))
                  have BO9 := BO8
                  clear y3
                  go_wp2_with fail
                  go_roundw
                  case rel =>
                    have hr : Rnd F c t up true S K S3 K7 := ⟨_, _, _, _, HNX.out, GOT.out, HNK.out, .inl ⟨rfl, .inr rfl⟩⟩
                    refine ⟨t + 1, l3, lk5, S3, K7, by omega, by go_num, by rw [HP7.out]; rfl, rnd_inv (by omega) hT1 HIN.out hr, rnd_go hc hn (fun h50 => ⟨UPF.out h50, DNF.out h50⟩) HIN.out HJN.out hr, BO9.out⟩
                  case measure => simp [intOf] <;> omega
      · rw [if_pos hkp]
        go_wp2_with fail
        refine (snext_w _ ps F c l S t (t - 1) hT1 (by omega) HIN.out.s hc hc2 hn HO.out BO.out.s).mono ?_
        rintro e W3 ⟨l3, S3, o, hnx, hs3, hk3, hres, hly⟩
        have BO3 := Lib.hid (BO.out.src hk3 hs3 hly)
        have HNX := Lib.hid hnx
        obtain ⟨_, xh, okh⟩ := half1 (by omega) hT1 HIN.out.s HIN.out.x hnx
        have XH := Lib.hid xh
        have OKH := Lib.hid okh
        clear hs3 hk3 hly hnx xh okh
        cases o with
        | none =>
          have hres : e = _ := hres
          subst hres
          unfold pcs
          go_upto_region 14 with fail
          obtain ⟨W5, q5, hW9, hq9, bq9, ka9⟩ := newU W3 zP zL
          change Code.wp _ _ _ _ (W3.alloc (.cells (pcs zP zL) TP))
          rw [← hW9, ← hq9]
          clear hW9 hq9
          have BO5 := Lib.hid (BO3.out.keep0 ka9)
          clear bq9 ka9
          obtain ⟨up, hup⟩ : ∃ b, b = false := ⟨_, rfl⟩
          have UPF : Hid (50 ≤ t → up = false) := Lib.hid (fun _ => hup)
          have GOT : Hid (Got1 F t up K none K) := Lib.hid (.inl ⟨rfl, .inl rfl⟩)
          clear hup
          obtain ⟨K5, hK5⟩ : ∃ x, x = K := ⟨_, rfl⟩
          obtain ⟨lk5, hlk5⟩ : ∃ x, x = lk := ⟨_, rfl⟩
          rw [← hK5, ← hlk5] at BO5
          have GOT2 : Hid (Got1 F t up K none K5) := Lib.hid (hK5 ▸ GOT.out)
          clear GOT hlk5 hK5
          have GOT := GOT2
          clear GOT2
          go_wp2_with fail
          obtain ⟨is5, ik5, xr5⟩ := got1_x (by omega) hT1 HIN.out HNX.out GOT.out
          have IS3 := Lib.hid is5
          have XR5 := Lib.hid xr5
          have IK5 := Lib.hid ik5
          clear is5 ik5 xr5
          have hk5 : K5.ph = 2 := (got1_back GOT.out).2 hkp
          refine (kfile_1 _ pk F c lk5 K5 (.inr hk5) (IK5.out.all (by omega)).1 (by have := IK5.out.dl; omega) (BO5.out.k.data.vw (by omega)) BO5.out.k.blk).mono ?_
          rintro e W6 ⟨X6, xc6, rfl, hs6, hk6', hf6⟩
          have BO6 := Lib.hid (BO5.out.keep0 hk6')
          clear hs6 hk6' hf6
          have ecl : cls t K5 = K5 := cls_same (by omega)
          have IK6 : Hid (IK F c t (cls t K5)) := Lib.hid (by rw [ecl]; exact IK5.out)
          have XR6 : Hid (XR S3 (cls t K5)) := Lib.hid (by rw [ecl]; exact XR5.out)
          have hk6 : (cls t K5).ph = 2 := by rw [ecl]; exact hk5
          have hp6 : (cls t K5).ph = 0 ∨ (cls t K5).ph = 2 := .inr hk6
          rw [← ecl] at BO6
          go_wp2_with fail
          refine (knext_w _ pk F c lk5 (cls t K5) t t (Nat.le_refl _) (by omega) IK6.out hn hp6 BO6.out.k).mono ?_
          rintro e W7 ⟨K7, o', hnk, hs7, hk7, hres7⟩
          have BO7 := Lib.hid (BO6.out.snk1 hk7 hs7)
          obtain ⟨i7, x7, ok7, p7, _⟩ := half4 (by omega) (Nat.le_refl t) IK6.out XR6.out hnk
          have IK7 := Lib.hid i7
          have XR7 := Lib.hid x7
          have OK7 := Lib.hid ok7
          have HNK := Lib.hid hnk
          have HP7 : Hid (K7.ph = 2) := Lib.hid (by rw [p7]; exact hk6)
          clear hs7 hk7 i7 x7 ok7 p7 hnk
          cases o' with
          | none =>
            have hres7 : e = _ := hres7
            subst hres7
            unfold pcs
            go_upto_region 22 with fail
            obtain ⟨W8, q8, hW9, hq9, bq9, ka9⟩ := newU W7 zP zL
            change Code.wp _ _ _ _ (W7.alloc (.cells (pcs zP zL) TP))
            rw [← hW9, ← hq9]
            clear hW9 hq9
            have BO9 := Lib.hid (BO7.out.keep0 ka9)
            clear bq9 ka9
            go_wp2_with fail
            go_roundw
            case rel =>
              have hr : Rnd F c t up false S K S3 K7 := ⟨_, _, _, _, HNX.out, GOT.out, HNK.out, .inl ⟨rfl, .inl rfl⟩⟩
              refine ⟨t + 1, l3, lk5, S3, K7, by omega, by go_num, by rw [HP7.out]; rfl, rnd_inv (by omega) hT1 HIN.out hr, rnd_go hc hn (fun h50 => ⟨UPF.out h50, rfl⟩) HIN.out HJN.out hr, BO9.out⟩
            case measure => simp [intOf] <;> omega
          | some u7 =>
            obtain ⟨lu7, rfl, hpin7, hfr7⟩ := hres7
            unfold pcs
            go_upto_region 22 with fail
            obtain ⟨W8, q8, hW9, hq9, bq9, ka9⟩ := newU W7 (upd F u7) lu7
            change Code.wp _ _ _ _ (W7.alloc (.cells (pcs (upd F u7) lu7) TP))
            rw [← hW9, ← hq9]
            clear hW9 hq9
            have BO8 := Lib.hid (BO7.out.keep0 ka9)
            have PI8 := Lib.hid (hpin7.keep0 ka9)
            have BQ8 := Lib.hid bq9
            have FR7 := Lib.hid hfr7
            clear bq9 ka9 hpin7 hfr7
            have y3 : W8.cell? ⟨bx, 3, none⟩ = some (.slice V vn vc) := (XT.out BO8.out).cell 3
            go_wp2_with fail
            refine (lost_w _ V vn vc bv t (by omega) hVc.1 (by exact HV.out.keep0 (KT.out BO8.out))).mono ?_
            rintro e W8 ⟨⟨v7, rfl, hv7⟩, rfl⟩
            have DNV := Lib.hid hv7
            clear hv7
            cases v7
            · have zs0 : W8.cell? ⟨q8, 0, none⟩ = some (.int .i64 (upd F u7).kind) := BQ8.out.cell 0
              have zs1 : W8.cell? ⟨q8, 1, none⟩ = some (.int .i64 (upd F u7).src) := BQ8.out.cell 1
              have zs2 : W8.cell? ⟨q8, 2, none⟩ = some (.int .i64 (upd F u7).num) := BQ8.out.cell 2
              have zs3 : W8.cell? ⟨q8, 3, none⟩ = some (.int .i64 (upd F u7).cls) := BQ8.out.cell 3
              have zs4 : W8.cell? ⟨q8, 4, none⟩ = some (.string (strOfNums (upd F u7).name)) := BQ8.out.cell 4
              have zs5 : W8.cell? ⟨q8, 5, none⟩ = some (.int .i64 (upd F u7).size) := BQ8.out.cell 5
              have zs6 : W8.cell? ⟨q8, 6, none⟩ = some (.int .i64 (upd F u7).off) := BQ8.out.cell 6
              have zs7 : W8.cell? ⟨q8, 7, none⟩ = some (.slice lu7.D lu7.dn lu7.dc) := BQ8.out.cell 7
              have zs8 : W8.cell? ⟨q8, 8, none⟩ = some (.int .u32 (upd F u7).sum) := BQ8.out.cell 8
              have zs9 : W8.cell? ⟨q8, 9, none⟩ = some (.int .i64 (upd F u7).code) := BQ8.out.cell 9
              have zs10 : W8.cell? ⟨q8, 10, none⟩ = some (.slice lu7.G lu7.gn lu7.gc) := BQ8.out.cell 10
              go_wp2_with fail
              clear zs0 zs1 zs2 zs3 zs4 zs5 zs6 zs7 zs8 zs9 zs10
              refine (stake_any _ ps F c l3 S3 K7 u7 lu7 t t (Nat.le_refl _) (by omega) IS3.out hn (okk_ph OK7.out XR7.out IK7.out) OK7.out BO8.out.s PI8.out (fun hm => by have := FR7.out ps hm; have := BO6.out.s.blk.lt; omega)).mono ?_
              rintro e W9 ⟨l9, S9, rfl, htk, hs9, hk9, hly9⟩
              have BO9 := Lib.hid (BO8.out.src hk9 hs9 hly9)
              have HTK := Lib.hid htk
              clear hs9 hk9 hly9 htk y3
              go_wp2_with fail
              go_roundw
              case rel =>
                have hr : Rnd F c t up false S K S9 K7 := ⟨_, _, _, _, HNX.out, GOT.out, HNK.out, .inr ⟨_, rfl, rfl, HTK.out⟩⟩
                refine ⟨t + 1, l9, lk5, S9, K7, by omega, by go_num, by rw [HP7.out]; rfl, rnd_inv (by omega) hT1 HIN.out hr, rnd_go hc hn (fun h50 => ⟨UPF.out h50, rfl⟩) HIN.out HJN.out hr, BO9.out⟩
              case measure => simp [intOf] <;> omega
            · have DNF : Hid (50 ≤ t → true = false) := Lib.hid (fun h50 => DNV.out (by omega))
              have BO9 := BO8
              clear y3
              go_wp2_with fail
              go_roundw
              case rel =>
                have hr : Rnd F c t up true S K S3 K7 := ⟨_, _, _, _, HNX.out, GOT.out, HNK.out, .inl ⟨rfl, .inr rfl⟩⟩
                refine ⟨t + 1, l3, lk5, S3, K7, by omega, by go_num, by rw [HP7.out]; rfl, rnd_inv (by omega) hT1 HIN.out hr, rnd_go hc hn (fun h50 => ⟨UPF.out h50, DNF.out h50⟩) HIN.out HJN.out hr, BO9.out⟩
              case measure => simp [intOf] <;> omega
        | some u =>
          obtain ⟨lu, rfl, hpin, hfr⟩ := hres
          unfold pcs
          go_upto_region 14 with fail
          obtain ⟨W4, q4, hW9, hq9, bq9, ka9⟩ := newU W3 (upd F u) lu
          change Code.wp _ _ _ _ (W3.alloc (.cells (pcs (upd F u) lu) TP))
          rw [← hW9, ← hq9]
          clear hW9 hq9
          have BO4 := Lib.hid (BO3.out.keep0 ka9)
          have PI4 := Lib.hid (hpin.keep0 ka9)
          have BQ4 := Lib.hid bq9
          have FR3 := Lib.hid hfr
          clear bq9 ka9 hpin hfr
          have y2 : W4.cell? ⟨bx, 2, none⟩ = some (.slice U un uc) := (XT.out BO4.out).cell 2
          go_wp2_with fail
          refine (lost_w _ U un uc bu t (by omega) hUc.1 (by exact HU.out.keep0 (KT.out BO4.out))).mono ?_
          rintro e W4 ⟨⟨v, rfl, hv⟩, rfl⟩
          have UPV := Lib.hid hv
          clear hv
          cases v
          · have zk0 : W4.cell? ⟨q4, 0, none⟩ = some (.int .i64 (upd F u).kind) := BQ4.out.cell 0
            have zk1 : W4.cell? ⟨q4, 1, none⟩ = some (.int .i64 (upd F u).src) := BQ4.out.cell 1
            have zk2 : W4.cell? ⟨q4, 2, none⟩ = some (.int .i64 (upd F u).num) := BQ4.out.cell 2
            have zk3 : W4.cell? ⟨q4, 3, none⟩ = some (.int .i64 (upd F u).cls) := BQ4.out.cell 3
            have zk4 : W4.cell? ⟨q4, 4, none⟩ = some (.string (strOfNums (upd F u).name)) := BQ4.out.cell 4
            have zk5 : W4.cell? ⟨q4, 5, none⟩ = some (.int .i64 (upd F u).size) := BQ4.out.cell 5
            have zk6 : W4.cell? ⟨q4, 6, none⟩ = some (.int .i64 (upd F u).off) := BQ4.out.cell 6
            have zk7 : W4.cell? ⟨q4, 7, none⟩ = some (.slice lu.D lu.dn lu.dc) := BQ4.out.cell 7
            have zk8 : W4.cell? ⟨q4, 8, none⟩ = some (.int .u32 (upd F u).sum) := BQ4.out.cell 8
            have zk9 : W4.cell? ⟨q4, 9, none⟩ = some (.int .i64 (upd F u).code) := BQ4.out.cell 9
            have zk10 : W4.cell? ⟨q4, 10, none⟩ = some (.slice lu.G lu.gn lu.gc) := BQ4.out.cell 10
            go_wp2_with fail
            clear zk0 zk1 zk2 zk3 zk4 zk5 zk6 zk7 zk8 zk9 zk10
            refine (ktake_any _ pk F c lk K S3 u lu t (t - 1) hT1 (by omega) HIN.out.k XH.out hc hn HO.out HIN.out.ph OKH.out BO4.out.k PI4.out (fun y hy hm => by have := FR3.out y hy; have := BO.out.k.slt hm; omega)).mono ?_
            rintro e W5 ⟨lk5, Kr, rfl, hrc, hs5, hk5', hf5⟩
            have BO5 : Hid (Both W1 W5 ps pk F c l3 lk5 S3 (chk F.length Kr)) := Lib.hid (BO4.out.snk hk5' hs5 hf5)
            have GOT : Hid (Got1 F t false K (some u) (chk F.length Kr)) := Lib.hid (.inr ⟨_, _, rfl, rfl, hrc, rfl⟩)
            obtain ⟨K5, hK5⟩ : ∃ x, x = chk F.length Kr := ⟨_, rfl⟩
            rw [← hK5] at BO5 GOT
            obtain ⟨up, hup⟩ : ∃ b, b = false := ⟨_, rfl⟩
            rw [← hup] at GOT
            have UPF : Hid (50 ≤ t → up = false) := Lib.hid (fun _ => hup)
            clear hs5 hk5' hf5 hrc hK5 hup y2
            go_wp2_with fail
            obtain ⟨is5, ik5, xr5⟩ := got1_x (by omega) hT1 HIN.out HNX.out GOT.out
            have IS3 := Lib.hid is5
            have XR5 := Lib.hid xr5
            have IK5 := Lib.hid ik5
            clear is5 ik5 xr5
            have hk5 : K5.ph = 2 := (got1_back GOT.out).2 hkp
            refine (kfile_1 _ pk F c lk5 K5 (.inr hk5) (IK5.out.all (by omega)).1 (by have := IK5.out.dl; omega) (BO5.out.k.data.vw (by omega)) BO5.out.k.blk).mono ?_
            rintro e W6 ⟨X6, xc6, rfl, hs6, hk6', hf6⟩
            have BO6 := Lib.hid (BO5.out.keep0 hk6')
            clear hs6 hk6' hf6
            have ecl : cls t K5 = K5 := cls_same (by omega)
            have IK6 : Hid (IK F c t (cls t K5)) := Lib.hid (by rw [ecl]; exact IK5.out)
            have XR6 : Hid (XR S3 (cls t K5)) := Lib.hid (by rw [ecl]; exact XR5.out)
            have hk6 : (cls t K5).ph = 2 := by rw [ecl]; exact hk5
            have hp6 : (cls t K5).ph = 0 ∨ (cls t K5).ph = 2 := .inr hk6
            rw [← ecl] at BO6
            go_wp2_with fail
            refine (knext_w _ pk F c lk5 (cls t K5) t t (Nat.le_refl _) (by omega) IK6.out hn hp6 BO6.out.k).mono ?_
            rintro e W7 ⟨K7, o', hnk, hs7, hk7, hres7⟩
            have BO7 := Lib.hid (BO6.out.snk1 hk7 hs7)
            obtain ⟨i7, x7, ok7, p7, _⟩ := half4 (by omega) (Nat.le_refl t) IK6.out XR6.out hnk
            have IK7 := Lib.hid i7
            have XR7 := Lib.hid x7
            have OK7 := Lib.hid ok7
            have HNK := Lib.hid hnk
            have HP7 : Hid (K7.ph = 2) := Lib.hid (by rw [p7]; exact hk6)
            clear hs7 hk7 i7 x7 ok7 p7 hnk
            cases o' with
            | none =>
              have hres7 : e = _ := hres7
              subst hres7
              unfold pcs
              go_upto_region 22 with fail
              obtain ⟨W8, q8, hW9, hq9, bq9, ka9⟩ := newU W7 zP zL
              change Code.wp _ _ _ _ (W7.alloc (.cells (pcs zP zL) TP))
              rw [← hW9, ← hq9]
              clear hW9 hq9
              have BO9 := Lib.hid (BO7.out.keep0 ka9)
              clear bq9 ka9
              go_wp2_with fail
              go_roundw
              case rel =>
                have hr : Rnd F c t up false S K S3 K7 := ⟨_, _, _, _, HNX.out, GOT.out, HNK.out, .inl ⟨rfl, .inl rfl⟩⟩
                refine ⟨t + 1, l3, lk5, S3, K7, by omega, by go_num, by rw [HP7.out]; rfl, rnd_inv (by omega) hT1 HIN.out hr, rnd_go hc hn (fun h50 => ⟨UPF.out h50, rfl⟩) HIN.out HJN.out hr, BO9.out⟩
              case measure => simp [intOf] <;> omega
            | some u7 =>
              obtain ⟨lu7, rfl, hpin7, hfr7⟩ := hres7
              unfold pcs
              go_upto_region 22 with fail
              obtain ⟨W8, q8, hW9, hq9, bq9, ka9⟩ := newU W7 (upd F u7) lu7
              change Code.wp _ _ _ _ (W7.alloc (.cells (pcs (upd F u7) lu7) TP))
              rw [← hW9, ← hq9]
              clear hW9 hq9
              have BO8 := Lib.hid (BO7.out.keep0 ka9)
              have PI8 := Lib.hid (hpin7.keep0 ka9)
              have BQ8 := Lib.hid bq9
              have FR7 := Lib.hid hfr7
              clear bq9 ka9 hpin7 hfr7
              have y3 : W8.cell? ⟨bx, 3, none⟩ = some (.slice V vn vc) := (XT.out BO8.out).cell 3
              go_wp2_with fail
              refine (lost_w _ V vn vc bv t (by omega) hVc.1 (by exact HV.out.keep0 (KT.out BO8.out))).mono ?_
              rintro e W8 ⟨⟨v7, rfl, hv7⟩, rfl⟩
              have DNV := Lib.hid hv7
              clear hv7
              cases v7
              · have zs0 : W8.cell? ⟨q8, 0, none⟩ = some (.int .i64 (upd F u7).kind) := BQ8.out.cell 0
                have zs1 : W8.cell? ⟨q8, 1, none⟩ = some (.int .i64 (upd F u7).src) := BQ8.out.cell 1
                have zs2 : W8.cell? ⟨q8, 2, none⟩ = some (.int .i64 (upd F u7).num) := BQ8.out.cell 2
                have zs3 : W8.cell? ⟨q8, 3, none⟩ = some (.int .i64 (upd F u7).cls) := BQ8.out.cell 3
                have zs4 : W8.cell? ⟨q8, 4, none⟩ = some (.string (strOfNums (upd F u7).name)) := BQ8.out.cell 4
                have zs5 : W8.cell? ⟨q8, 5, none⟩ = some (.int .i64 (upd F u7).size) := BQ8.out.cell 5
                have zs6 : W8.cell? ⟨q8, 6, none⟩ = some (.int .i64 (upd F u7).off) := BQ8.out.cell 6
                have zs7 : W8.cell? ⟨q8, 7, none⟩ = some (.slice lu7.D lu7.dn lu7.dc) := BQ8.out.cell 7
                have zs8 : W8.cell? ⟨q8, 8, none⟩ = some (.int .u32 (upd F u7).sum) := BQ8.out.cell 8
                have zs9 : W8.cell? ⟨q8, 9, none⟩ = some (.int .i64 (upd F u7).code) := BQ8.out.cell 9
                have zs10 : W8.cell? ⟨q8, 10, none⟩ = some (.slice lu7.G lu7.gn lu7.gc) := BQ8.out.cell 10
                go_wp2_with fail
                clear zs0 zs1 zs2 zs3 zs4 zs5 zs6 zs7 zs8 zs9 zs10
                refine (stake_any _ ps F c l3 S3 K7 u7 lu7 t t (Nat.le_refl _) (by omega) IS3.out hn (okk_ph OK7.out XR7.out IK7.out) OK7.out BO8.out.s PI8.out (fun hm => by have := FR7.out ps hm; have := BO6.out.s.blk.lt; omega)).mono ?_
                rintro e W9 ⟨l9, S9, rfl, htk, hs9, hk9, hly9⟩
                have BO9 := Lib.hid (BO8.out.src hk9 hs9 hly9)
                have HTK := Lib.hid htk
                clear hs9 hk9 hly9 htk y3
                go_wp2_with fail
                go_roundw
                case rel =>
                  have hr : Rnd F c t up false S K S9 K7 := ⟨_, _, _, _, HNX.out, GOT.out, HNK.out, .inr ⟨_, rfl, rfl, HTK.out⟩⟩
                  refine ⟨t + 1, l9, lk5, S9, K7, by omega, by go_num, by rw [HP7.out]; rfl, rnd_inv (by omega) hT1 HIN.out hr, rnd_go hc hn (fun h50 => ⟨UPF.out h50, rfl⟩) HIN.out HJN.out hr, BO9.out⟩
                case measure => simp [intOf] <;> omega
              · have DNF : Hid (50 ≤ t → true = false) := Lib.hid (fun h50 => DNV.out (by omega))
                have BO9 := BO8
                clear y3
                go_wp2_with fail
                go_roundw
                case rel =>
                  have hr : Rnd F c t up true S K S3 K7 := ⟨_, _, _, _, HNX.out, GOT.out, HNK.out, .inl ⟨rfl, .inr rfl⟩⟩
                  refine ⟨t + 1, l3, lk5, S3, K7, by omega, by go_num, by rw [HP7.out]; rfl, rnd_inv (by omega) hT1 HIN.out hr, rnd_go hc hn (fun h50 => ⟨UPF.out h50, DNF.out h50⟩) HIN.out HJN.out hr, BO9.out⟩
                case measure => simp [intOf] <;> omega
          · have UPF0 : Hid (50 ≤ t → true = false) := Lib.hid (fun h50 => UPV.out (by omega))
            have GOT0 : Hid (Got1 F t true K (some u) K) := Lib.hid (.inl ⟨rfl, .inr rfl⟩)
            obtain ⟨up, hup⟩ : ∃ b, b = true := ⟨_, rfl⟩
            obtain ⟨K5, hK5⟩ : ∃ x, x = K := ⟨_, rfl⟩
            obtain ⟨lk5, hlk5⟩ : ∃ x, x = lk := ⟨_, rfl⟩
            have BO5 : Hid (Both W1 W4 ps pk F c l3 lk5 S3 K5) := Lib.hid (by rw [hK5, hlk5]; exact BO4.out)
            have GOT : Hid (Got1 F t up K (some u) K5) := Lib.hid (by rw [hup, hK5]; exact GOT0.out)
            have UPF : Hid (50 ≤ t → up = false) := Lib.hid (fun h50 => by rw [hup]; exact UPF0.out h50)
            clear GOT0 UPF0 hup hK5 hlk5 y2
            go_wp2_with fail
            obtain ⟨is5, ik5, xr5⟩ := got1_x (by omega) hT1 HIN.out HNX.out GOT.out
            have IS3 := Lib.hid is5
            have XR5 := Lib.hid xr5
            have IK5 := Lib.hid ik5
            clear is5 ik5 xr5
            have hk5 : K5.ph = 2 := (got1_back GOT.out).2 hkp
            refine (kfile_1 _ pk F c lk5 K5 (.inr hk5) (IK5.out.all (by omega)).1 (by have := IK5.out.dl; omega) (BO5.out.k.data.vw (by omega)) BO5.out.k.blk).mono ?_
            rintro e W6 ⟨X6, xc6, rfl, hs6, hk6', hf6⟩
            have BO6 := Lib.hid (BO5.out.keep0 hk6')
            clear hs6 hk6' hf6
            have ecl : cls t K5 = K5 := cls_same (by omega)
            have IK6 : Hid (IK F c t (cls t K5)) := Lib.hid (by rw [ecl]; exact IK5.out)
            have XR6 : Hid (XR S3 (cls t K5)) := Lib.hid (by rw [ecl]; exact XR5.out)
            have hk6 : (cls t K5).ph = 2 := by rw [ecl]; exact hk5
            have hp6 : (cls t K5).ph = 0 ∨ (cls t K5).ph = 2 := .inr hk6
            rw [← ecl] at BO6
            go_wp2_with fail
            refine (knext_w _ pk F c lk5 (cls t K5) t t (Nat.le_refl _) (by omega) IK6.out hn hp6 BO6.out.k).mono ?_
            rintro e W7 ⟨K7, o', hnk, hs7, hk7, hres7⟩
            have BO7 := Lib.hid (BO6.out.snk1 hk7 hs7)
            obtain ⟨i7, x7, ok7, p7, _⟩ := half4 (by omega) (Nat.le_refl t) IK6.out XR6.out hnk
            have IK7 := Lib.hid i7
            have XR7 := Lib.hid x7
            have OK7 := Lib.hid ok7
            have HNK := Lib.hid hnk
            have HP7 : Hid (K7.ph = 2) := Lib.hid (by rw [p7]; exact hk6)
            clear hs7 hk7 i7 x7 ok7 p7 hnk
            cases o' with
            | none =>
              have hres7 : e = _ := hres7
              subst hres7
              unfold pcs
              go_upto_region 22 with fail
              obtain ⟨W8, q8, hW9, hq9, bq9, ka9⟩ := newU W7 zP zL
              change Code.wp _ _ _ _ (W7.alloc (.cells (pcs zP zL) TP))
              rw [← hW9, ← hq9]
              clear hW9 hq9
              have BO9 := Lib.hid (BO7.out.keep0 ka9)
              clear bq9 ka9
              go_wp2_with fail
              go_roundw
              case rel =>
                have hr : Rnd F c t up false S K S3 K7 := ⟨_, _, _, _, HNX.out, GOT.out, HNK.out, .inl ⟨rfl, .inl rfl⟩⟩
                refine ⟨t + 1, l3, lk5, S3, K7, by omega, by go_num, by rw [HP7.out]; rfl, rnd_inv (by omega) hT1 HIN.out hr, rnd_go hc hn (fun h50 => ⟨UPF.out h50, rfl⟩) HIN.out HJN.out hr, BO9.out⟩
              case measure => simp [intOf] <;> omega
            | some u7 =>
              obtain ⟨lu7, rfl, hpin7, hfr7⟩ := hres7
              unfold pcs
              go_upto_region 22 with fail
              obtain ⟨W8, q8, hW9, hq9, bq9, ka9⟩ := newU W7 (upd F u7) lu7
              change Code.wp _ _ _ _ (W7.alloc (.cells (pcs (upd F u7) lu7) TP))
              rw [← hW9, ← hq9]
              clear hW9 hq9
              have BO8 := Lib.hid (BO7.out.keep0 ka9)
              have PI8 := Lib.hid (hpin7.keep0 ka9)
              have BQ8 := Lib.hid bq9
              have FR7 := Lib.hid hfr7
              clear bq9 ka9 hpin7 hfr7
              have y3 : W8.cell? ⟨bx, 3, none⟩ = some (.slice V vn vc) := (XT.out BO8.out).cell 3
              go_wp2_with fail
              refine (lost_w _ V vn vc bv t (by omega) hVc.1 (by exact HV.out.keep0 (KT.out BO8.out))).mono ?_
              rintro e W8 ⟨⟨v7, rfl, hv7⟩, rfl⟩
              have DNV := Lib.hid hv7
              clear hv7
              cases v7
              · have zs0 : W8.cell? ⟨q8, 0, none⟩ = some (.int .i64 (upd F u7).kind) := BQ8.out.cell 0
                have zs1 : W8.cell? ⟨q8, 1, none⟩ = some (.int .i64 (upd F u7).src) := BQ8.out.cell 1
                have zs2 : W8.cell? ⟨q8, 2, none⟩ = some (.int .i64 (upd F u7).num) := BQ8.out.cell 2
                have zs3 : W8.cell? ⟨q8, 3, none⟩ = some (.int .i64 (upd F u7).cls) := BQ8.out.cell 3
                have zs4 : W8.cell? ⟨q8, 4, none⟩ = some (.string (strOfNums (upd F u7).name)) := BQ8.out.cell 4
                have zs5 : W8.cell? ⟨q8, 5, none⟩ = some (.int .i64 (upd F u7).size) := BQ8.out.cell 5
                have zs6 : W8.cell? ⟨q8, 6, none⟩ = some (.int .i64 (upd F u7).off) := BQ8.out.cell 6
                have zs7 : W8.cell? ⟨q8, 7, none⟩ = some (.slice lu7.D lu7.dn lu7.dc) := BQ8.out.cell 7
                have zs8 : W8.cell? ⟨q8, 8, none⟩ = some (.int .u32 (upd F u7).sum) := BQ8.out.cell 8
                have zs9 : W8.cell? ⟨q8, 9, none⟩ = some (.int .i64 (upd F u7).code) := BQ8.out.cell 9
                have zs10 : W8.cell? ⟨q8, 10, none⟩ = some (.slice lu7.G lu7.gn lu7.gc) := BQ8.out.cell 10
                go_wp2_with fail
                clear zs0 zs1 zs2 zs3 zs4 zs5 zs6 zs7 zs8 zs9 zs10
                refine (stake_any _ ps F c l3 S3 K7 u7 lu7 t t (Nat.le_refl _) (by omega) IS3.out hn (okk_ph OK7.out XR7.out IK7.out) OK7.out BO8.out.s PI8.out (fun hm => by have := FR7.out ps hm; have := BO6.out.s.blk.lt; omega)).mono ?_
                rintro e W9 ⟨l9, S9, rfl, htk, hs9, hk9, hly9⟩
                have BO9 := Lib.hid (BO8.out.src hk9 hs9 hly9)
                have HTK := Lib.hid htk
                clear hs9 hk9 hly9 htk y3
                go_wp2_with fail
                go_roundw
                case rel =>
                  have hr : Rnd F c t up false S K S9 K7 := ⟨_, _, _, _, HNX.out, GOT.out, HNK.out, .inr ⟨_, rfl, rfl, HTK.out⟩⟩
                  refine ⟨t + 1, l9, lk5, S9, K7, by omega, by go_num, by rw [HP7.out]; rfl, rnd_inv (by omega) hT1 HIN.out hr, rnd_go hc hn (fun h50 => ⟨UPF.out h50, rfl⟩) HIN.out HJN.out hr, BO9.out⟩
                case measure => simp [intOf] <;> omega
              · have DNF : Hid (50 ≤ t → true = false) := Lib.hid (fun h50 => DNV.out (by omega))
                have BO9 := BO8
                clear y3
                go_wp2_with fail
                go_roundw
                case rel =>
                  have hr : Rnd F c t up true S K S3 K7 := ⟨_, _, _, _, HNX.out, GOT.out, HNK.out, .inl ⟨rfl, .inr rfl⟩⟩
                  refine ⟨t + 1, l3, lk5, S3, K7, by omega, by go_num, by rw [HP7.out]; rfl, rnd_inv (by omega) hT1 HIN.out hr, rnd_go hc hn (fun h50 => ⟨UPF.out h50, DNF.out h50⟩) HIN.out HJN.out hr, BO9.out⟩
                case measure => simp [intOf] <;> omega
    · obtain rfl : t = 400 := by omega
      obtain ⟨e1, e2, e3, e4, e5, e6⟩ := at_end HIN.out HJN.out
      have E6 := Lib.hid e6
      rw [if_pos e2]
      clear e6
      go_wp2_with fail
      refine (sstate_w _ ps F c l S e1 BO.out.s.blk).mono ?_
      rintro e wz ⟨rfl, rfl⟩
      go_wp2_with fail
      refine (scode_w _ ps F c l S BO.out.s.blk).mono ?_
      rintro e wz ⟨rfl, rfl⟩
      go_wp2_with fail
      refine (kstate_w _ pk F c lk K e2 e3 BO.out.k.blk).mono ?_
      rintro e wz ⟨rfl, rfl⟩
      go_wp2_with fail
      have hgl : K.got.length ≤ 1000 := by have := nrm_len (a := 0) (N := (F.length : Int)) HIN.out.k.nrm (fun z hz => HIN.out.k.al.inn hz) (by omega); omega
      refine (kmissing_w _ pk F c lk K (.inl e4) hgl hn (BO.out.k.got.vw (by omega)) BO.out.k.blk).mono ?_
      rintro e wy ⟨Y, yc, N, rfl, hsy, hny, hmy, _, hky, _⟩
      have hN0 : N = [] := nrm_empty hny (fun z hz => by
        obtain ⟨⟨z0, z1⟩, z2⟩ := (hmy z).1 hz
        exact z2 (E6.out z z0 z1))
      subst hN0
      have KY := Lib.hid ((KT.out BO.out).chain0 (Nat.le_refl _) hky)
      clear hsy hmy hky
      go_wp2_with fail
      go_ret
      exact ⟨rfl, KY.out⟩
/-- the law holds of every input -/
theorem law_any (w : World) (X : Option Addr) (xc : Nat) (F : List Int) (U : Option Addr) (un uc : Nat) (bu : List Bool) (V : Option Addr) (vn vc : Nat) (bv : List Bool) (ch : Int) (hX : Vw w X F.length 1 (octs F)) (hXc : F.length ≤ xc ∧ xc ≤ maxLen) (oF : Oct F) (hU : Vw w U un 1 (bu.map Value.bool)) (hUc : un ≤ uc ∧ uc ≤ maxLen) (hV : Vw w V vn 1 (bv.map Value.bool)) (hVc : vn ≤ vc ∧ vc ≤ maxLen) : Calls Try.prog 5 #[.agg #[.slice X F.length xc, .int .i64 ch, .slice U un uc, .slice V vn vc]] w fun e w' => e = .returned (.bool true) ∧ Keep w.heap.size [] w w' := by
  by_cases h : 300 < F.length ∨ ch < 8 ∨ 512 < ch ∨ 50 < un ∨ 50 < vn
  · exact law_early w X xc F U un uc bu V vn vc bv ch hX hXc oF hU hUc hV hVc h
  · obtain ⟨c, rfl⟩ : ∃ c : Nat, ch = (c : Int) := ⟨ch.toNat, by omega⟩
    exact law_main w X xc F U un uc bu V vn vc bv c hX hXc oF hU hUc hV hVc (by omega) (by omega) (by omega) (by omega) (by omega)
end Go.Proofs.Ytfkbcflgbjncdaa
