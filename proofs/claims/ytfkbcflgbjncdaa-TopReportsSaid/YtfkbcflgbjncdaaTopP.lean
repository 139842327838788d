/- TopReports: the plain law, and the law's world. -/
import Derived.Test.YtfkbcflgbjncdaaLeB
import Derived.Test.YtfkbcflgbjncdaaTrF
import Derived.Test.YtfkbcflgbjncdaaVeC
import Derived.Test.YtfkbcflgbjncdaaCmd2
namespace Go.Proofs.Ytfkbcflgbjncdaa
set_option linter.unusedVariables false
set_option linter.unusedSimpArgs false
open Go.RowKit
def LawPost (w : World) (e : Ending) (w' : World) : Prop := e = .returned (.bool true) ∧ Keep w.heap.size [] w w'
/-- the tracker's list: commands 1 to 10 of source 1; a stage beyond Refused only for what is done -/
def Rep (D : List Is) (dl : List Bool) : Prop := D.length = 10 ∧ dl.length = 11 ∧ ∀ (i : Nat) (x : Is), D[i]? = some x → x.s = 1 ∧ x.n = (i : Int) + 1 ∧ (x.g = 0 ∨ x.g = 4 ∨ (dl[i + 1]? = some true ∧ (x.g = 1 ∨ x.g = 2 ∨ x.g = 3)))
theorem Rep.find {D : List Is} {dl : List Bool} (h : Rep D dl) (n : Nat) (h1 : 1 ≤ n) (h2 : n ≤ 10) : findI D 1 (n : Int) = some (n - 1) ∧ ∃ x, D[n - 1]? = some x := by
  obtain ⟨hl, _, hx⟩ := h
  have hn : n - 1 < D.length := by omega
  refine ⟨?_, _, List.getElem?_eq_getElem hn⟩
  unfold findI
  rw [List.findIdx?_eq_some_iff_getElem]
  refine ⟨hn, ?_, fun j hj => ?_⟩
  · obtain ⟨a, b, _⟩ := hx (n - 1) _ (List.getElem?_eq_getElem hn)
    simp [a, b]; omega
  · obtain ⟨a, b, _⟩ := hx j _ (List.getElem?_eq_getElem (by omega))
    simp [a, b]; omega
theorem Rep.take {t : Tk} {dl : List Bool} (h : Rep t.D dl) (n : Nat) (h1 : 1 ≤ n) (h2 : n ≤ 10) (stg cod now : Int) (hs : stg = 4 ∨ (dl[n]? = some true ∧ (stg = 1 ∨ stg = 2 ∨ stg = 3))) : Rep (takeP t ⟨1, (n : Int), stg, cod⟩ now).2.D dl := by
  obtain ⟨hf, x, hx⟩ := h.find n h1 h2
  unfold takeP
  split
  · simp only [hf, hx]
    split
    · obtain ⟨hl, hd, ha⟩ := h
      refine ⟨by simpa using hl, hd, fun i y hy => ?_⟩
      rw [List.getElem?_set] at hy
      by_cases hi : n - 1 = i
      · rw [if_pos hi, if_pos (by omega)] at hy
        subst hi
        cases hy
        obtain ⟨b1, b2, _⟩ := ha (n - 1) x hx
        refine ⟨b1, b2, ?_⟩
        rw [show n - 1 + 1 = n by omega]
        rcases hs with hs | hs
        · exact .inr (.inl hs)
        · exact .inr (.inr hs)
      · rw [if_neg hi] at hy
        exact ha i y hy
    · exact h
  · exact h
theorem Rep.done {D : List Is} {dl : List Bool} (h : Rep D dl) (n : Nat) : Rep D (dl.set n true) := by
  obtain ⟨hl, hd, ha⟩ := h
  refine ⟨hl, by simpa using hd, fun i x hx => ?_⟩
  obtain ⟨b1, b2, b3⟩ := ha i x hx
  refine ⟨b1, b2, ?_⟩
  rcases b3 with b3 | b3 | ⟨b3, b4⟩
  · exact .inl b3
  · exact .inr (.inl b3)
  · refine .inr (.inr ⟨?_, b4⟩)
    rw [List.getElem?_set]
    have hi : i + 1 < dl.length := (List.getElem?_eq_some_iff.1 b3).1
    by_cases hn : n = i + 1
    · rw [if_pos hn, if_pos (by omega)]
    · rw [if_neg hn]; exact b3
theorem Rep.stage {t : Tk} {dl : List Bool} (h : Rep t.D dl) (n : Nat) (h1 : 1 ≤ n) (h2 : n ≤ 10) : stageP t 1 (n : Int) = 0 ∨ stageP t 1 (n : Int) = 4 ∨ (dl[n]? = some true ∧ (stageP t 1 (n : Int) = 1 ∨ stageP t 1 (n : Int) = 2 ∨ stageP t 1 (n : Int) = 3)) := by
  obtain ⟨hf, x, hx⟩ := h.find n h1 h2
  have e : stageP t 1 (n : Int) = x.g := by unfold stageP; rw [hf]; simp only [hx]
  rw [e]
  have := (h.2.2 (n - 1) x hx).2.2
  rwa [show n - 1 + 1 = n by omega] at this
theorem Rep.open_ {D : List Is} {dl : List Bool} (h : Rep D dl) : openP D ≤ 10 := by
  rw [← h.1]; exact List.countP_le_length
def isD (k : Nat) : List Is := (List.range k).map (fun i : Nat => ⟨1, (i : Int) + 1, 0, 0, 0⟩)
theorem isD_issue (k : Nat) (hk : k < 10) : issueP ⟨0, 100, isD k⟩ 1 ((k : Int) + 1) 0 = (0, ⟨0, 100, isD (k + 1)⟩) := by
  have h1 : okSN 1 ((k : Int) + 1) = true := (okSN_iff _ _).2 (by omega)
  have h2 : findI (isD k) 1 ((k : Int) + 1) = none := by
    unfold findI
    rw [List.findIdx?_eq_none_iff]
    intro x hx
    obtain ⟨i, hi, rfl⟩ := List.mem_map.1 hx
    have := List.mem_range.1 hi
    simp; omega
  unfold issueP
  rw [if_pos h1]
  simp only [h2, adv]
  simp [isD, List.range_succ]
theorem isD_rep : Rep (isD 10) (List.replicate 11 false) := by
  refine ⟨by simp [isD], by simp, fun i x hx => ?_⟩
  obtain ⟨hi, rfl⟩ := List.getElem?_eq_some_iff.1 hx
  simp [isD]
/-- the ledger: what is done is recorded; nothing of source 2 -/
def LJ (L : List Rc) (dl : List Bool) : Prop := ∃ r, L[1]? = some r ∧ RcOk r ∧ (∀ n : Nat, 1 ≤ n → n ≤ 10 → dl[n]? = some true → seenB r (n : Int) = true) ∧ L[2]? = some ⟨0, 0⟩
theorem lj0 : LJ zeroL (List.replicate 11 false) := by
  refine ⟨⟨0, 0⟩, rfl, by unfold RcOk; decide, fun n h1 h2 h3 => ?_, rfl⟩
  rw [List.getElem?_replicate] at h3
  split at h3 <;> cases h3
theorem LJ.seen {L : List Rc} {dl : List Bool} (h : LJ L dl) (n : Nat) (h1 : 1 ≤ n) (h2 : n ≤ 10) (hs : seenL L 1 (n : Int) = false) (hd : dl.length = 11) : dl[n]? = some false ∧ ∃ L', markL L 1 (n : Int) = (L', 0) ∧ LJ L' (dl.set n true) := by
  obtain ⟨r, hr, hok, hsn, h0⟩ := h
  have hn : okN (n : Int) = true := okN_iff.2 (by omega)
  have hso : okS ((1 : Nat) : Int) = true := by decide
  have e1 := seenL_at (i := 1) hso hn hr
  have e1' : seenL L 1 (n : Int) = seenB r n := e1
  rw [e1'] at hs
  have e2 := markL_at (i := 1) hso hn hr
  have e2' : markL L 1 (n : Int) = if seenB r n then (L, 9) else (L.set 1 (markR r n), 0) := e2
  rw [hs] at e2'
  have hf : dl[n]? = some false := by
    have hl : n < dl.length := by omega
    rw [List.getElem?_eq_getElem hl]
    cases hc : dl[n] with
    | false => rfl
    | true => rw [hsn n h1 h2 (by rw [List.getElem?_eq_getElem hl, hc])] at hs; cases hs
  have hm : MkR r (n : Int) := ⟨hok, by omega, hs⟩
  refine ⟨hf, _, e2', markR r n, ?_, markR_ok hok hn hs, fun k k1 k2 hk => ?_, ?_⟩
  · have hl : 1 < L.length := (List.getElem?_eq_some_iff.1 hr).1
    simp [hl]
  · rw [List.getElem?_set] at hk
    by_cases hnk : n = k
    · subst hnk; exact seen_marked hm
    · rw [if_neg hnk] at hk
      exact seen_mono hm (hsn k k1 k2 hk)
  · rw [List.getElem?_set_ne (by decide)]; exact h0
theorem LJ.two {L : List Rc} {dl : List Bool} (h : LJ L dl) : ∃ L', markL L 2 1 = (L', 0) := by
  obtain ⟨r, hr, hok, hsn, h0⟩ := h
  have e2 := markL_at (i := 2) (n := 1) (by decide) (by decide) h0
  have e2' : markL L 2 1 = if seenB ⟨0, 0⟩ 1 then (L, 9) else (L.set 2 (markR ⟨0, 0⟩ 1), 0) := e2
  rw [show seenB ⟨0, 0⟩ 1 = false by decide] at e2'
  exact ⟨_, e2'⟩
abbrev bools (l : List Bool) : List Value := l.map Value.bool
/-- a world that holds the ledger, the tracker and the list of what is done -/
structure TW (w W : World) (gl gt gd : Nat) (A : Option Addr) (L : List Rc) (t : Tk) (dl : List Bool) : Prop where
  keep : Keep w.heap.size [] w W
  led : Led W gl L
  tr : Tr W gt A t
  dn : Blk W gd 4 (bools dl).toArray
  hl : w.heap.size ≤ gl
  ht : w.heap.size ≤ gt
  hd : w.heap.size ≤ gd
  hA : ∀ y, y ∈ blks A → w.heap.size ≤ y
section
variable {w W W' : World} {gl gt gd : Nat} {A A' : Option Addr} {L L' : List Rc} {t t' : Tk} {dl : List Bool}
theorem Tr.blk {g : Nat} (h : Tr W g A t) : ∃ cs, Blk W g 103 cs := by obtain ⟨n, c, _, h2, _⟩ := h; exact ⟨_, h2⟩
theorem Tr.sl {g : Nat} (h : Tr W g A t) : ∃ n c xs, Sl W 109 5 A n c xs := by obtain ⟨n, c, _, _, h3, _⟩ := h; exact ⟨n, c, _, h3⟩
theorem TW.far (h : TW w W gl gt gd A L t dl) : gl ≠ gt ∧ gl ≠ gd ∧ gt ≠ gd ∧ gl ∉ blks A ∧ gd ∉ blks A := by
  obtain ⟨cs, ht⟩ := h.tr.blk
  obtain ⟨n, c, xs, hs⟩ := h.tr.sl
  exact ⟨h.led.2.1.ne_ ht (by decide), h.led.2.1.ne_ h.dn (by decide), ht.ne_ h.dn (by decide), hs.ne_blk h.led.2.1 (by decide), hs.ne_blk h.dn (by decide)⟩
theorem TW.drewN (h : TW w W gl gt gd A L t dl) (n : Nat) : TW w (W.drewN n) gl gt gd A L t dl := ⟨h.keep.drewN n, h.led, h.tr, h.dn, h.hl, h.ht, h.hd, h.hA⟩
theorem TW.drew (h : TW w W gl gt gd A L t dl) : TW w W.drew gl gt gd A L t dl := ⟨h.keep.drew, h.led, h.tr, h.dn, h.hl, h.ht, h.hd, h.hA⟩
theorem TW.next (h : TW w W gl gt gd A L t dl) (k : Keep W.heap.size [] W W') : TW w W' gl gt gd A L t dl :=
  ⟨h.keep.chain0 (Nat.le_refl _) k, h.led.keepS k (by simp), h.tr.keep0 k, h.dn.keepS k (by simp), h.hl, h.ht, h.hd, h.hA⟩
theorem TW.mark (h : TW w W gl gt gd A L t dl) (h1 : Led W' gl L') (k : Keep W.heap.size [gl] W W') : TW w W' gl gt gd A L' t dl := by
  obtain ⟨a, b, c, d, e⟩ := h.far
  exact ⟨h.keep.chain1 (Nat.le_refl _) k h.hl, h1, h.tr.keepS k (by simpa using Ne.symm a) (fun x hx => by simp; rintro rfl; exact d hx), h.dn.keepS k (by simpa using Ne.symm b), h.hl, h.ht, h.hd, h.hA⟩
theorem TW.track (h : TW w W gl gt gd A L t dl) (h1 : Tr W' gt A' t') (k : Keep W.heap.size (gt :: blks A) W W') (hb : ∀ x, x ∈ blks A' → x ∈ blks A ∨ W.heap.size ≤ x) : TW w W' gl gt gd A' L t' dl := by
  obtain ⟨a, b, c, d, e⟩ := h.far
  have hz := h.keep.size
  exact ⟨h.keep.chain (Nat.le_refl _) k (fun y hy => by
    rcases List.mem_cons.1 hy with rfl | hy
    · exact h.ht
    · exact h.hA y hy), h.led.keepS k (by simp only [List.mem_cons, not_or]; exact ⟨a, d⟩), h1, h.dn.keepS k (by simp only [List.mem_cons, not_or]; exact ⟨Ne.symm c, e⟩), h.hl, h.ht, h.hd, fun y hy => by
    rcases hb y hy with h2 | h2
    · exact h.hA y h2
    · omega⟩
theorem TW.done (h : TW w W gl gt gd A L t dl) (n : Nat) : TW w (W.setCell ⟨gd, n, none⟩ (.bool true)) gl gt gd A L t (dl.set n true) := by
  obtain ⟨a, b, c, d, e⟩ := h.far
  have k : Keep W.heap.size [gd] W (W.setCell ⟨gd, n, none⟩ (.bool true)) := (Keep.refl _ _ _).setS (by simp)
  refine ⟨h.keep.chain1 (Nat.le_refl _) k h.hd, h.led.keepS k (by simpa using b), h.tr.keepS k (by simpa using c) (fun x hx => by simp; rintro rfl; exact e hx), ?_, h.hl, h.ht, h.hd, h.hA⟩
  have := h.dn.set_ n (.bool true)
  simpa [bools, List.map_set] using this
end
/-- an arrival: its numbers, and the list of what is lost -/
structure Arr where
  num : Int
  svc : Int
  mode : Int
  X : Option Addr
  m : Nat
  c : Nat
  bs : List Bool
abbrev arcells (a : Arr) : List Value := [.int .i64 a.num, .int .i64 a.svc, .int .i64 a.mode, .slice a.X a.m a.c]
theorem arr_len (a : Arr) : (arcells a).length = 4 := rfl
def Arrs (w : World) (A : Option Addr) (n : Nat) (l : List Arr) : Prop := Vw w A n 4 (l.flatMap arcells) ∧ ∀ a ∈ l, Vw w a.X a.m 1 (bools a.bs) ∧ a.m ≤ a.c ∧ a.c ≤ maxLen
theorem Arrs.len {w : World} {A : Option Addr} {n : Nat} {l : List Arr} (h : Arrs w A n l) : n = l.length := by
  have := h.1.1; rw [flat_length arcells 4 arr_len] at this; omega
theorem Arrs.at_ {W : World} {X : Option Addr} {m k : Nat} {L : List Arr} {y : Arr} (h : Arrs W X m L) (hk : k < m) (hy : L[k]? = some y) : ∃ b o, X = some ⟨b, o, none⟩ ∧ W.cell? ⟨b, o + k * 4, none⟩ = some (.int .i64 y.num) ∧ W.cell? ⟨b, o + k * 4 + 1, none⟩ = some (.int .i64 y.svc) ∧ W.cell? ⟨b, o + k * 4 + 2, none⟩ = some (.int .i64 y.mode) ∧ W.cell? ⟨b, o + k * 4 + 3, none⟩ = some (.slice y.X y.m y.c) := by
  obtain ⟨b, o, rfl, hb, hc⟩ := h.1.2 (by omega)
  have g := fun j hj => flat_get arcells 4 arr_len L k y j hy hj
  exact ⟨b, o, rfl, hc (k * 4) _ (g 0 (by omega)), hc (k * 4 + 1) _ (g 1 (by omega)), hc (k * 4 + 2) _ (g 2 (by omega)), hc (k * 4 + 3) _ (g 3 (by omega))⟩
theorem Arrs.keep0 {w w' : World} {A : Option Addr} {n : Nat} {l : List Arr} (h : Arrs w A n l) (k : Keep w.heap.size [] w w') : Arrs w' A n l :=
  ⟨h.1.keep0 k, fun a ha => ⟨(h.2 a ha).1.keep0 k, (h.2 a ha).2⟩⟩
end Go.Proofs.Ytfkbcflgbjncdaa
