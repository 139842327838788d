/- Decoding: what both ways share. -/
import Derived.Test.YtijionfhnoffcaaPEnc
import Derived.Test.YtijionfhnoffcaaPBack
import Derived.Test.YtijionfhnoffcaaRg
namespace Go.Proofs.Ytijionfhnoffcaa
set_option linter.unusedVariables false
set_option linter.unusedSimpArgs false
open Go.RowKit
abbrev RdT := World → Nat → Option Addr → RS → Prop
def KR (R : RdT) : Prop := ∀ (w w' : World) (g : Nat) (X : Option Addr) (s : RS) (S : List Nat), R w g X s → Keep w.heap.size S w w' → g ∉ S → (∀ x, x ∈ blks X → x ∉ S) → R w' g X s
theorem RO_k : KR RO := fun _ _ _ _ _ _ h k hg hx => h.keepS k hg hx
theorem RX_k : KR RX := fun _ _ _ _ _ _ h k hg hx => h.keepS k hg hx
theorem PIn.keepS {w w' : World} {p : Pd} {l : Lc} {S : List Nat} (h : PIn w p l) (k : Keep w.heap.size S w w') (hD : ∀ x, x ∈ blks l.D → x ∉ S) (hG : ∀ x, x ∈ blks l.G → x ∉ S) : PIn w' p l :=
  ⟨h.on, h.od, h.vd.keepS k hD, h.vg.keepS k hG, h.cd, h.cg, h.nl, h.dl, h.gl, h.sm⟩
/-- a world W on the way of a decoding that began (its results and its reader laid) in w: the reader g, the unit's block b -/
structure FW (R : RdT) (w W : World) (g b : Nat) (X : Option Addr) (s : RS) (p : Pd) (l : Lc) : Prop where
  keep : Keep w.heap.size [g] w W
  hg : g < w.heap.size
  rd : R W g X s
  ok : RSok s
  hX : ∀ x, x ∈ blks X → x < w.heap.size
  box : Blk W b TP (pcs p l)
  hb : w.heap.size ≤ b
  pin : PIn W p l
  hD : ∀ x, x ∈ blks l.D → w.heap.size ≤ x ∧ x ≠ b
  hG : ∀ x, x ∈ blks l.G → w.heap.size ≤ x ∧ x ≠ b
section
variable {R : RdT} {w W W' : World} {g b : Nat} {X X' : Option Addr} {s s' : RS} {p : Pd} {l : Lc}
theorem FW.other (h : FW R w W g b X s p l) (kr : KR R) (k : Keep W.heap.size [] W W') : FW R w W' g b X s p l :=
  ⟨h.keep.trans (k.mono h.keep.size (by simp)), h.hg, kr _ _ _ _ _ _ h.rd k (by simp) (by simp), h.ok, h.hX, h.box.keepS k (by simp), h.hb, h.pin.keep0 k, h.hD, h.hG⟩
theorem FW.read (h : FW R w W g b X s p l) (hr : R W' g X' s') (hok : RSok s') (hk : Keep W.heap.size [g] W W') (hsub : ∀ x, x ∈ blks X' → x ∈ blks X) : FW R w W' g b X' s' p l :=
  have hgb : b ≠ g := by have := h.hg; have := h.hb; omega
  ⟨h.keep.trans (hk.mono h.keep.size (fun _ _ hx => hx)), h.hg, hr, hok, fun x hx => h.hX x (hsub x hx), h.box.keepS hk (by simpa using hgb), h.hb,
    h.pin.keepS hk (fun x hx => by have := (h.hD x hx).1; have := h.hg; simp; omega) (fun x hx => by have := (h.hG x hx).1; have := h.hg; simp; omega), h.hD, h.hG⟩
theorem FW.set (h : FW R w W g b X s p l) (kr : KR R) (i : Nat) (u : Value) {p' : Pd} {l' : Lc} (hp : (pcs p l).setIfInBounds i u = pcs p' l') (pin : PIn W p' l')
    (hD : ∀ x, x ∈ blks l'.D → w.heap.size ≤ x ∧ x ≠ b) (hG : ∀ x, x ∈ blks l'.G → w.heap.size ≤ x ∧ x ≠ b) : FW R w (W.setCell ⟨b, i, none⟩ u) g b X s p' l' := by
  have k : Keep W.heap.size [b] W (W.setCell ⟨b, i, none⟩ u) := (Keep.refl _ _ _).set1
  have hgb : b ≠ g := by have := h.hg; have := h.hb; omega
  refine ⟨h.keep.setN h.hb, h.hg, kr _ _ _ _ _ _ h.rd k (by simpa using Ne.symm hgb) (fun x hx => by have := h.hX x hx; have := h.hb; simp; omega), h.ok, h.hX, ?_, h.hb, ?_, hD, hG⟩
  · rw [← hp]; exact h.box.set_ i u
  · exact pin.keepS k (fun x hx => by simpa using (hD x hx).2) (fun x hx => by simpa using (hG x hx).2)
theorem FW.setKind (h : FW R w W g b X s p l) (kr : KR R) (v : Int) : FW R w (W.setCell ⟨b, 0, none⟩ (.int .i64 v)) g b X s { p with kind := v } l :=
  h.set kr 0 _ rfl ⟨h.pin.on, h.pin.od, h.pin.vd, h.pin.vg, h.pin.cd, h.pin.cg, h.pin.nl, h.pin.dl, h.pin.gl, h.pin.sm⟩ h.hD h.hG
theorem FW.setSrc (h : FW R w W g b X s p l) (kr : KR R) (v : Int) : FW R w (W.setCell ⟨b, 1, none⟩ (.int .i64 v)) g b X s { p with src := v } l :=
  h.set kr 1 _ rfl ⟨h.pin.on, h.pin.od, h.pin.vd, h.pin.vg, h.pin.cd, h.pin.cg, h.pin.nl, h.pin.dl, h.pin.gl, h.pin.sm⟩ h.hD h.hG
theorem FW.setNum (h : FW R w W g b X s p l) (kr : KR R) (v : Int) : FW R w (W.setCell ⟨b, 2, none⟩ (.int .i64 v)) g b X s { p with num := v } l :=
  h.set kr 2 _ rfl ⟨h.pin.on, h.pin.od, h.pin.vd, h.pin.vg, h.pin.cd, h.pin.cg, h.pin.nl, h.pin.dl, h.pin.gl, h.pin.sm⟩ h.hD h.hG
theorem FW.setCls (h : FW R w W g b X s p l) (kr : KR R) (v : Int) : FW R w (W.setCell ⟨b, 3, none⟩ (.int .i64 v)) g b X s { p with cls := v } l :=
  h.set kr 3 _ rfl ⟨h.pin.on, h.pin.od, h.pin.vd, h.pin.vg, h.pin.cd, h.pin.cg, h.pin.nl, h.pin.dl, h.pin.gl, h.pin.sm⟩ h.hD h.hG
theorem FW.setName (h : FW R w W g b X s p l) (kr : KR R) (v : List Int) (ho : Oct v) (hl : v.length ≤ 100000) : FW R w (W.setCell ⟨b, 4, none⟩ (.string (strOfNums v))) g b X s { p with name := v } l :=
  h.set kr 4 _ rfl ⟨ho, h.pin.od, h.pin.vd, h.pin.vg, h.pin.cd, h.pin.cg, hl, h.pin.dl, h.pin.gl, h.pin.sm⟩ h.hD h.hG
theorem FW.setSize (h : FW R w W g b X s p l) (kr : KR R) (v : Int) : FW R w (W.setCell ⟨b, 5, none⟩ (.int .i64 v)) g b X s { p with size := v } l :=
  h.set kr 5 _ rfl ⟨h.pin.on, h.pin.od, h.pin.vd, h.pin.vg, h.pin.cd, h.pin.cg, h.pin.nl, h.pin.dl, h.pin.gl, h.pin.sm⟩ h.hD h.hG
theorem FW.setOff (h : FW R w W g b X s p l) (kr : KR R) (v : Int) : FW R w (W.setCell ⟨b, 6, none⟩ (.int .i64 v)) g b X s { p with off := v } l :=
  h.set kr 6 _ rfl ⟨h.pin.on, h.pin.od, h.pin.vd, h.pin.vg, h.pin.cd, h.pin.cg, h.pin.nl, h.pin.dl, h.pin.gl, h.pin.sm⟩ h.hD h.hG
theorem FW.setData (h : FW R w W g b X s p l) (kr : KR R) (v : List Int) (A : Option Addr) (n c : Nat) (ho : Oct v) (hv : Vw W A n 1 (octs v)) (hc : n ≤ c ∧ c ≤ maxLen) (hn : n ≤ 100000) (hA : ∀ x, x ∈ blks A → w.heap.size ≤ x ∧ x ≠ b) :
    FW R w (W.setCell ⟨b, 7, none⟩ (.slice A n c)) g b X s { p with data := v } { l with D := A, dn := n, dc := c } :=
  h.set kr 7 _ rfl ⟨h.pin.on, ho, hv, h.pin.vg, hc, h.pin.cg, h.pin.nl, hn, h.pin.gl, h.pin.sm⟩ hA h.hG
theorem FW.setSum (h : FW R w W g b X s p l) (kr : KR R) (v : Int) (hv : 0 ≤ v ∧ v < 4294967296) : FW R w (W.setCell ⟨b, 8, none⟩ (.int .u32 v)) g b X s { p with sum := v } l :=
  h.set kr 8 _ rfl ⟨h.pin.on, h.pin.od, h.pin.vd, h.pin.vg, h.pin.cd, h.pin.cg, h.pin.nl, h.pin.dl, h.pin.gl, hv⟩ h.hD h.hG
theorem FW.setCode (h : FW R w W g b X s p l) (kr : KR R) (v : Int) : FW R w (W.setCell ⟨b, 9, none⟩ (.int .i64 v)) g b X s { p with code := v } l :=
  h.set kr 9 _ rfl ⟨h.pin.on, h.pin.od, h.pin.vd, h.pin.vg, h.pin.cd, h.pin.cg, h.pin.nl, h.pin.dl, h.pin.gl, h.pin.sm⟩ h.hD h.hG
theorem FW.setGaps (h : FW R w W g b X s p l) (kr : KR R) (v : List Gp) (A : Option Addr) (n c : Nat) (hv : Vw W A n 2 (v.flatMap gcells)) (hc : n ≤ c ∧ c ≤ maxLen) (hn : n ≤ 100000) (hA : ∀ x, x ∈ blks A → w.heap.size ≤ x ∧ x ≠ b) :
    FW R w (W.setCell ⟨b, 10, none⟩ (.slice A n c)) g b X s { p with gaps := v } { l with G := A, gn := n, gc := c } :=
  h.set kr 10 _ rfl ⟨h.pin.on, h.pin.od, h.pin.vd, hv, h.pin.cd, hc, h.pin.nl, h.pin.dl, hn, h.pin.sm⟩ h.hD hA
end
def FPost (R : RdT) (w : World) (g b : Nat) (v : Value) (s' : RS) (p : Pd) (l : Lc) (e : Ending) (W' : World) : Prop := e = .returned v ∧ ∃ X', FW R w W' g b X' s' p l
def FPostB (R : RdT) (w : World) (g b : Nat) (B : List Int) (s' : RS) (p : Pd) (l : Lc) (e : Ending) (W' : World) : Prop :=
  ∃ A n c X', e = .returned (.slice A n c) ∧ Vw W' A n 1 (octs B) ∧ FW R w W' g b X' s' p l
def FPostC (R : RdT) (w : World) (g b : Nat) (B : List Int) (s' : RS) (p : Pd) (l : Lc) (e : Ending) (W' : World) : Prop :=
  ∃ A n c X', e = .returned (.slice A n c) ∧ Vw W' A n 1 (octs B) ∧ FW R w W' g b X' s' p l ∧ (n ≤ c ∧ c ≤ maxLen) ∧ ∀ x, x ∈ blks A → w.heap.size ≤ x ∧ x ≠ b
section
variable {w W : World} {g b : Nat} {X : Option Addr} {s s' : RS} {p : Pd} {l : Lc} {v : Int} {B : List Int}
theorem fu_o (h : FW RO w W g b X s p l) (z : Int) (hst : stU s z = (v, s')) : Calls Try.prog 46 #[bptr g, .int .i64 z] W (FPost RO w g b (.int .u64 v) s' p l) := by
  refine (ruint_s W g X s z h.ok h.rd).mono ?_
  rintro e W' ⟨X', rfl, h1, h2, h3⟩
  have h4 := stU_ok (z := z) h.ok
  rw [hst] at h1 h4 ⊢
  exact ⟨rfl, X', h.read h1 h4 h2 h3⟩
theorem fi_o (h : FW RO w W g b X s p l) (hst : stI s = (v, s')) : Calls Try.prog 47 #[bptr g] W (FPost RO w g b (.int .i64 v) s' p l) := by
  refine (rint_s W g X s h.ok h.rd).mono ?_
  rintro e W' ⟨X', rfl, h1, h2, h3⟩
  have h4 := stI_ok h.ok
  rw [hst] at h1 h4 ⊢
  exact ⟨rfl, X', h.read h1 h4 h2 h3⟩
theorem fc_o (h : FW RO w W g b X s p l) (z : Int) (hst : stC s z = (v, s')) : Calls Try.prog 49 #[bptr g, .int .i64 z] W (FPost RO w g b (.int .i64 v) s' p l) := by
  refine (rcount_s W g X s z h.ok h.rd).mono ?_
  rintro e W' ⟨X', rfl, h1, h2, h3⟩
  have h4 := stC_ok (z := z) h.ok
  rw [hst] at h1 h4 ⊢
  exact ⟨rfl, X', h.read h1 h4 h2 h3⟩
theorem fu_x (h : FW RX w W g b X s p l) (z : Int) (hst : stU s z = (v, s')) : Calls Try.prog 39 #[bptr g, .int .i64 z] W (FPost RX w g b (.int .u64 v) s' p l) := by
  refine (rruint_x W g X s z h.ok h.rd).mono ?_
  rintro e W' ⟨X', rfl, h1, h2, h3⟩
  have h4 := stU_ok (z := z) h.ok
  rw [hst] at h1 h4 ⊢
  exact ⟨rfl, X', h.read h1 h4 h2 h3⟩
theorem fi_x (h : FW RX w W g b X s p l) (hst : stI s = (v, s')) : Calls Try.prog 40 #[bptr g] W (FPost RX w g b (.int .i64 v) s' p l) := by
  refine (rrint_x W g X s h.ok h.rd).mono ?_
  rintro e W' ⟨X', rfl, h1, h2, h3⟩
  have h4 := stI_ok h.ok
  rw [hst] at h1 h4 ⊢
  exact ⟨rfl, X', h.read h1 h4 h2 h3⟩
theorem fc_x (h : FW RX w W g b X s p l) (z : Int) (hst : stC s z = (v, s')) : Calls Try.prog 42 #[bptr g, .int .i64 z] W (FPost RX w g b (.int .i64 v) s' p l) := by
  refine (rrcount_x W g X s z h.ok h.rd).mono ?_
  rintro e W' ⟨X', rfl, h1, h2, h3⟩
  have h4 := stC_ok (z := z) h.ok
  rw [hst] at h1 h4 ⊢
  exact ⟨rfl, X', h.read h1 h4 h2 h3⟩
theorem fb_x (h : FW RX w W g b X s p l) (z : Int) (hst : stB s z = (B, s')) : Calls Try.prog 41 #[bptr g, .int .i64 z] W (FPostB RX w g b B s' p l) := by
  refine (rrblob_x W g X s z h.ok h.rd).mono ?_
  rintro e W' ⟨X', A, n, c, rfl, h0, h1, h2, h3, _⟩
  have h4 := stB_ok (z := z) h.ok
  rw [hst] at h0 h1 h4
  exact ⟨A, n, c, X', rfl, h0, h.read h1 h4 h2 h3⟩
theorem fb_o (h : FW RO w W g b X s p l) (z : Int) (hst : stB s z = (B, s')) : Calls Try.prog 48 #[bptr g, .int .i64 z] W (FPostC RO w g b B s' p l) := by
  have hbl := h.box.lt
  have hws := h.keep.size
  cases s with
  | none =>
    cases hst
    refine (rblob_failed W g z h.rd).mono ?_
    rintro e W' ⟨rfl, rfl⟩
    exact ⟨none, 0, 0, _, rfl, Vw.nil _ _, h, ⟨Nat.le_refl _, Nat.zero_le _⟩, by simp [blks]⟩
  | some L =>
    obtain ⟨hO, hL⟩ := h.ok L rfl
    obtain ⟨B0, k, hnk⟩ : ∃ B k, tkB L z = (B, k) := ⟨_, _, rfl⟩
    by_cases h0 : k = 0
    · have e1 : stB (some L) z = ([], none) := by unfold stB; simp only; rw [hnk, if_pos h0]
      rw [e1] at hst
      cases hst
      subst h0
      refine (rblob_no W g X L B0 z hO h.rd hnk).mono ?_
      rintro e W' ⟨rfl, h1, h2⟩
      exact ⟨none, 0, 0, none, rfl, Vw.nil _ _, h.read (X' := none) h1 RSok.none h2 (by simp [blks]), ⟨Nat.le_refl _, Nat.zero_le _⟩, by simp [blks]⟩
    · have e1 : stB (some L) z = (B0, some (L.drop k)) := by unfold stB; simp only; rw [hnk, if_neg h0]
      have h4 := stB_ok (z := z) h.ok
      rw [e1] at hst h4
      cases hst
      refine (rblob_yes W g X L B z k hO h.rd hL hnk h0).mono ?_
      rintro e W' ⟨A, n, c, X', rfl, _, hs, h1, h2, h3, h5⟩
      refine ⟨A, n, c, X', rfl, hs.vw (by omega), h.read h1 h4 h2 (by rw [h3]; exact fun x h => h), hs.cap, fun x hx => ?_⟩
      have := h5 x hx
      omega
theorem fe_o (h : FW RO w W g b X s p l) : Calls Try.prog 50 #[bptr g] W fun e w' => e = .returned (.bool (endS s)) ∧ W = w' := by
  cases s with
  | none => exact rend_failed W g h.rd
  | some L =>
    refine (rend_yes W g X L h.rd).mono ?_
    rintro e W' ⟨rfl, rfl⟩
    exact ⟨by cases L <;> rfl, rfl⟩
end
theorem infoRg : (Try.prog.info? 41).map (fun i => (i.zero, i.size, i.bytes)) = some (some (.agg #[.int .i64 0, .int .i64 0]), 2, 16) := by kernel_rfl
theorem gi_o {w W : World} {g b : Nat} {X : Option Addr} {s s' : RS} {p : Pd} {l : Lc} {v : Int} {xs : List Value} (h : FW RO w W g b X s p l) (hs : Sl W 41 2 l.G l.gn l.gc xs) (hst : stI s = (v, s')) :
    Calls Try.prog 47 #[bptr g] W fun e W' => e = .returned (.int .i64 v) ∧ ∃ X', FW RO w W' g b X' s' p l ∧ Sl W' 41 2 l.G l.gn l.gc xs := by
  refine (rint_s W g X s h.ok h.rd).mono ?_
  rintro e W' ⟨X', rfl, h1, h2, h3⟩
  have h4 := stI_ok h.ok
  rw [hst] at h1 h4 ⊢
  exact ⟨rfl, X', h.read h1 h4 h2 h3, hs.keepS h2 (fun x hx => by have := (h.hG x hx).1; have := h.hg; simp; omega)⟩
theorem gi_x {w W : World} {g b : Nat} {X : Option Addr} {s s' : RS} {p : Pd} {l : Lc} {v : Int} {xs : List Value} (h : FW RX w W g b X s p l) (hs : Sl W 41 2 l.G l.gn l.gc xs) (hst : stI s = (v, s')) :
    Calls Try.prog 40 #[bptr g] W fun e W' => e = .returned (.int .i64 v) ∧ ∃ X', FW RX w W' g b X' s' p l ∧ Sl W' 41 2 l.G l.gn l.gc xs := by
  refine (rrint_x W g X s h.ok h.rd).mono ?_
  rintro e W' ⟨X', rfl, h1, h2, h3⟩
  have h4 := stI_ok h.ok
  rw [hst] at h1 h4 ⊢
  exact ⟨rfl, X', h.read h1 h4 h2 h3, hs.keepS h2 (fun x hx => by have := (h.hG x hx).1; have := h.hg; simp; omega)⟩
/-- a gap is appended and laid -/
theorem FW.gapAdd {R : RdT} {w V W : World} {g b : Nat} {X A A' : Option Addr} {s : RS} {p : Pd} {n c c' : Nat} {y : Gp} (h : FW R w V g b X s p ⟨none, 0, 0, A, n, c⟩) (kr : KR R) (hn : n ≤ 1000)
    (hs : Sl W 41 2 A' (n + 1) c' (p.gaps.flatMap gcells ++ gcells y)) (hk : Keep V.heap.size (blks A) V W) (hb : ∀ x, x ∈ blks A' → x ∈ blks A ∨ x = V.heap.size) :
    FW R w (W.setCell ⟨b, 10, none⟩ (.slice A' (n + 1) c')) g b X s { p with gaps := p.gaps ++ [y] } ⟨none, 0, 0, A', n + 1, c'⟩ ∧ Sl (W.setCell ⟨b, 10, none⟩ (.slice A' (n + 1) c')) 41 2 A' (n + 1) c' ((p.gaps ++ [y]).flatMap gcells) := by
  have hgb : b ≠ g := by have := h.hg; have := h.hb; omega
  have hbl := h.box.lt
  have hA : ∀ x, x ∈ blks A → w.heap.size ≤ x ∧ x ≠ b := h.hG
  have hA' : ∀ x, x ∈ blks A' → w.heap.size ≤ x ∧ x ≠ b := fun x hx => by
    rcases hb x hx with h' | h'
    · exact hA x h'
    · have := h.keep.size; omega
  have e : (p.gaps ++ [y]).flatMap gcells = p.gaps.flatMap gcells ++ gcells y := by simp
  have k1 : Keep W.heap.size [b] W (W.setCell ⟨b, 10, none⟩ (.slice A' (n + 1) c')) := (Keep.refl _ _ _).set1
  have hs' := hs.keepS k1 (fun x hx => by simpa using (hA' x hx).2)
  have k0 : Keep w.heap.size [g] w W := h.keep.trans (hk.mono h.keep.size (fun x hx hm => absurd (hA x hm).1 (by omega)))
  rw [e]
  refine ⟨⟨k0.setN h.hb, h.hg, kr _ _ _ _ _ _ (kr _ _ _ _ _ _ h.rd hk (fun hm => absurd (hA g hm).1 (by have := h.hg; omega)) (fun x hx hm => absurd (hA x hm).1 (by have := h.hX x hx; omega))) k1 (by simpa using Ne.symm hgb) (fun x hx => by have := h.hX x hx; have := h.hb; simp; omega), h.ok, h.hX, ?_, h.hb, ?_, by simp [blks], hA'⟩, hs'⟩
  · exact ((h.box.keepS hk (fun hm => (hA b hm).2 rfl)).set_ 10 _)
  · refine ⟨h.pin.on, h.pin.od, ⟨h.pin.vd.1, fun hm => absurd hm (by simp)⟩, ?_, h.pin.cd, hs.cap, h.pin.nl, h.pin.dl, by simp only; omega, h.pin.sm⟩
    simp only [e]
    exact hs'.vw (by omega)
theorem FW.sl0 {R : RdT} {w W : World} {g b : Nat} {X : Option Addr} {s : RS} {p : Pd} (h : FW R w W g b X s p zL) (hp : p.gaps = []) : Sl W 41 2 none 0 0 (p.gaps.flatMap gcells) := by rw [hp]; exact Sl.nil _ _ _
theorem stU_bd {s s' : RS} {v : Int} (z : Nat) (hok : RSok s) (h : stU s (z : Int) = (v, s')) : 0 ≤ v ∧ v < 256 ^ z := by
  have hp : (0 : Int) < 256 ^ z := Int.pow_pos (by decide)
  cases s with
  | none => cases h; omega
  | some L =>
    unfold stU at h
    simp only at h
    split at h
    · cases h; omega
    · cases h
      rw [Int.toNat_natCast]
      exact beVal_bd z (L.take z) (oct_take (hok L rfl).1 z) (by rw [List.length_take]; omega)
theorem stB_bd {s s' : RS} {B : List Int} {z : Int} (hok : RSok s) (hz : 0 ≤ z) (h : stB s z = (B, s')) : Oct B ∧ (B.length : Int) ≤ z := by
  cases s with
  | none => cases h; exact ⟨oct_nil, by simpa using hz⟩
  | some L =>
    cases s' with
    | some M =>
      obtain ⟨_, h2, h3, _⟩ := stB_sound (hok L rfl).1 h
      exact ⟨h3, h2⟩
    | none =>
      unfold stB at h
      simp only at h
      split at h
      · cases h; exact ⟨oct_nil, by simpa using hz⟩
      · cases h
theorem stC_bd {s s' : RS} {n z : Int} (hok : RSok s) (hz : 0 ≤ z) (h : stC s z = (n, s')) : 0 ≤ n ∧ n ≤ z := by
  cases s with
  | none => cases h; omega
  | some L =>
    cases s' with
    | some M => exact (stC_sound (hok L rfl).1 h).2.1
    | none =>
      unfold stC at h
      simp only at h
      split at h
      · cases h; omega
      · cases h
theorem gapsRd_snoc : ∀ (n : Nat) (s : RS), gapsRd (n + 1) s = ((gapsRd n s).1 ++ [⟨(stI (gapsRd n s).2).1, (stI (stI (gapsRd n s).2).2).1⟩], (stI (stI (gapsRd n s).2).2).2)
  | 0, s => rfl
  | n + 1, s => by
    rw [gapsRd, gapsRd_snoc n]
    rfl
theorem gapsRd_len : ∀ (n : Nat) (s : RS), (gapsRd n s).1.length = n
  | 0, s => rfl
  | n + 1, s => by rw [gapsRd, List.length_cons, gapsRd_len n]
theorem gapsRd_ok : ∀ (n : Nat) (s : RS), RSok s → RSok (gapsRd n s).2
  | 0, s, h => h
  | n + 1, s, h => by rw [gapsRd]; exact gapsRd_ok n _ (stI_ok (stI_ok h))
end Go.Proofs.Ytijionfhnoffcaa
