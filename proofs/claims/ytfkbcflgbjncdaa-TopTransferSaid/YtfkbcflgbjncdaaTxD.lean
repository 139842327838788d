/- Ranges: slices.DeleteFunc of the empty ones. -/
import Derived.Test.YtfkbcflgbjncdaaTxC
import Derived.Deep.DeepCutAuto
namespace Go.Proofs.Ytfkbcflgbjncdaa
set_option linter.unusedVariables false
set_option linter.unusedSimpArgs false
open Go.RowKit
abbrev full (g : Gp) : Bool := decide (g.f < g.t)
theorem blk_setCells {w : World} {g : Nat} {t : TypeId} : ∀ (vs : List Value) (o : Nat) (w : World) (cs : Array Value), Blk w g t cs → ∃ cs', Blk (w.setCells g o vs) g t cs' ∧ cs'.size = cs.size ∧ ∀ j, j < o → cs'[j]? = cs[j]?
  | [], o, w, cs, h => ⟨cs, h, rfl, fun _ _ => rfl⟩
  | v :: vs, o, w, cs, h => by
    obtain ⟨cs', h1, h2, h3⟩ := blk_setCells (w := w) vs (o + 1) _ _ (h.set_ o v)
    refine ⟨cs', h1, by rw [h2]; simp, fun j hj => ?_⟩
    rw [h3 j (by omega), Array.getElem?_setIfInBounds_ne (by omega)]
theorem keep_setCells {B : Nat} {S : List Nat} {w : World} {g : Nat} (hg : g ∈ S) : ∀ (vs : List Value) (o : Nat) (w' : World), Keep B S w w' → Keep B S w (w'.setCells g o vs)
  | [], _, _, h => h
  | v :: vs, o, w', h => keep_setCells hg vs (o + 1) _ (h.setS hg)
theorem run_clear2 (w : World) (ty : TypeId) (b o n c : Nat) (hn : 0 < n) (hc : ∀ j, j < 2 * n → (w.cell? ⟨b, o + j, none⟩).isSome = true) (hf : ∀ j, j < 2 * n → w.frozen? ⟨b, o + j, none⟩ = false) :
    (Builtin.clear_ #[83] ty #[.slice (some ⟨b, o, none⟩) n c]).run Try.prog w = .ok (.tuple #[]) (w.setCells b o (List.replicate (2 * n) (.int .i64 0))) := by
  have hzc : (Builtin.zeroCells (Value.agg #[.int .i64 0, .int .i64 0]).cells n).toList = List.replicate (2 * n) (Value.int .i64 0) := by
    show (Builtin.zeroCells #[Value.int .i64 0, Value.int .i64 0] n).toList = _
    apply List.ext_getElem
    · simp [Builtin.zeroCells]; omega
    · intro i h1 h2
      rcases (by omega : i % 2 = 0 ∨ i % 2 = 1) with h | h <;> simp [Builtin.zeroCells, h]
  have hst := run_storeCells_cells (P := Try.prog) b o (List.replicate (2 * n) (.int .i64 0)) 0 w (by simpa using hc) (by simpa using hf) (by intro v hv'; rw [List.eq_of_mem_replicate hv']; rfl)
  simp only [Nat.add_zero] at hst
  obtain ⟨m, rfl⟩ : ∃ m, n = m + 1 := ⟨n - 1, by omega⟩
  simp [Builtin.clear_, run_underlying Try.underlying83, Try.zeroValue158, hzc, hst]
theorem Sl.blkof {w : World} {e : TypeId} {size n c : Nat} {x : Nat} {xs : List Value} (h : Sl w e size (some ⟨x, 0, none⟩) n c xs) : ∃ cs : Array Value, Blk w x e cs ∧ cs.size = c * size ∧ n ≤ c ∧ c ≤ maxLen ∧ ∀ j, j < n * size → cs[j]? = xs[j]? := by
  have hl := h.1
  rcases h.2 with ⟨hv, _⟩ | ⟨g, cap, cur, hv, _, hg, hc, hm, hsz, htk⟩
  · cases hv
  · injection hv with h1 h2 h3
    injection h1 with h4
    injection h4 with h5
    subst h5; subst h3
    refine ⟨cur, hg, hsz, hc, hm, fun j hj => ?_⟩
    rw [← htk, List.getElem?_take, if_pos hj, Array.getElem?_toList]
def DlPost (w : World) (A : Option Addr) (c : Nat) (L : List Gp) (e : Ending) (w' : World) : Prop :=
  ∃ m, e = .returned (.slice A m c) ∧ m = (L.filter full).length ∧ m ≤ c ∧ Vw w' A m 2 (gcs (L.filter full)) ∧ Keep w.heap.size (blks A) w w' ∧ ∀ x j, A = some ⟨x, 0, none⟩ → w'.frozen? ⟨x, j, none⟩ = false
theorem filter_snoc {L : List Gp} {j : Nat} {g : Gp} (h : L[j]? = some g) : (L.take (j + 1)).filter full = (L.take j).filter full ++ (if full g then [g] else []) := by
  rw [List.take_add_one, h, List.filter_append]
  simp [List.filter_cons]
set_option maxRecDepth 100000 in
set_option maxHeartbeats 4000000 in
theorem delete_cl (w : World) (A : Option Addr) (n c : Nat) (L : List Gp) (hn : n ≤ 100000) (hs : Sl w TG 2 A n c (gcs L)) :
    Calls Try.prog 155 #[.slice A n c, .func (.func 156) #[] #[]] w (DlPost w A c L) := by
  have hl : n = L.length := by have := hs.1; rw [gcells_len] at this; omega
  have hcap := hs.cap
  have HS := Lib.hid hs
  have HL := Lib.hid hl
  clear hs hl
  go_enter Try.func155, Try.ntmps155
  go_wp2_with fail
  refine (index_cl _ A n c L (by omega) hcap.1 hcap.2 (HS.out.vw (by omega))).mono ?_
  rintro e w1 ⟨hk1, ⟨rfl, hall⟩ | ⟨k, g, rfl, hgk, hge, hbef⟩⟩
  · have K1 := Lib.hid hk1
    have hfl : L.filter full = L := List.filter_eq_self.2 fun x hx => by simpa [full] using hall x hx
    have HFL := Lib.hid hfl
    clear hk1 hall hfl
    go_wp2_with fail
    go_ret
    exact ⟨n, rfl, by rw [HFL.out, HL.out], hcap.1, by rw [HFL.out]; exact (HS.out.keep0 K1.out).vw (by omega), K1.out.mono (Nat.le_refl _) (by simp), fun x j hA => by subst hA; obtain ⟨cs, hb, _⟩ := (HS.out.keep0 K1.out).blkof; exact hb.frozen j⟩
  · have hkn : k < n := by have := (List.getElem?_eq_some_iff.1 hgk).1; have := HL.out; omega
    obtain ⟨x, rfl, hxl, _, _⟩ : ∃ x, A = some ⟨x, 0, none⟩ ∧ x < w.heap.size ∧ n ≤ c ∧ c ≤ maxLen := by
      rcases HS.out.form with ⟨_, h0, _⟩ | ⟨x, rfl, h1, h2, h3⟩
      · omega
      · exact ⟨x, rfl, h1, h2, h3⟩
    obtain ⟨cs, hb, hcs, _, _, hcx⟩ := HS.out.blkof
    have hfk : (L.take k).filter full = L.take k := List.filter_eq_self.2 fun x hx => by simpa [full] using hbef x hx
    have hfk1 : (L.take (k + 1)).filter full = L.take k := by
      rw [filter_snoc hgk, hfk, if_neg (by simp only [full, decide_eq_true_eq]; omega), List.append_nil]
    have B1 := Lib.hid (hb.keepS hk1 (by simp))
    have K1 := Lib.hid hk1
    have hkI : ¬ (k : Int) = -1 := by omega
    have hkb : ((k : Int) == -1) = false := beq_false_of_ne hkI
    have htl : (L.take k).length = k := by rw [List.length_take]; have := HL.out; omega
    have HFK := Lib.hid hfk1
    have HTL := Lib.hid htl
    have HCX := Lib.hid hcx
    have hcs2 : n * 2 ≤ cs.size := by rw [hcs]; have := hcap.1; omega
    have hcI : (c : Int) ≤ 9223372036854775807 := by have := hcap.2; unfold maxLen at this; omega
    have hncI : (n : Int) ≤ (c : Int) := by have := hcap.1; omega
    clear hk1 hgk hge hbef hb hcs hcx hfk hfk1 htl
    go_wp2_with fail
    go_loopw [5, 6] (fun ii jj wr => ∃ (i j : Nat) (F : List Gp) (cs' : Array Value), i < j ∧ j ≤ n ∧ ii = .int .i64 i ∧ jj = .int .i64 j ∧ F = (L.take j).filter full ∧ F.length = i ∧ Blk wr x TG cs' ∧ n * 2 ≤ cs'.size ∧ (∀ s, s < i * 2 → cs'[s]? = (gcs F)[s]?) ∧ (∀ s, j * 2 ≤ s → s < n * 2 → cs'[s]? = (gcs L)[s]?) ∧ Keep w.heap.size [x] w wr) (fun _ jj _ => n - (intOf jj).toNat)
    case atStart =>
      refine ⟨k, k + 1, L.take k, cs, by omega, by omega, rfl, by go_num, HFK.out.symm, HTL.out, B1.out, hcs2, fun s hs => ?_, fun s _ h => HCX.out s h, K1.out.mono (Nat.le_refl _) (by simp)⟩
      rw [HCX.out s (by omega)]
      have e : gcs L = gcs (L.take k) ++ gcs (L.drop k) := by unfold gcs; rw [← List.flatMap_append, List.take_append_drop]
      rw [e, List.getElem?_append_left (by rw [gcells_len, HTL.out]; omega)]
    case round =>
      obtain ⟨i, j, F, cs', hij, hjn, rfl, rfl, hF, hFl, hb, hsz, hlo, hhi, hkw⟩ := hrel
      have BB := Lib.hid hb
      have LO := Lib.hid hlo
      have HI := Lib.hid hhi
      have KW := Lib.hid hkw
      have HF := Lib.hid hF
      have HFL := Lib.hid hFl
      clear hb hlo hhi hkw hF hFl
      by_cases hlt : j < n
      · have hji : (j : Int) < (n : Int) := by omega
        have hii : (i : Int) < (n : Int) := by omega
        obtain ⟨y, hy⟩ : ∃ y, L[j]? = some y := ⟨_, List.getElem?_eq_getElem (by have := HL.out; omega)⟩
        have d0 : wr.cell? ⟨x, j * 2, none⟩ = some (.int .i64 y.f) := by
          rw [BB.out.cell, HI.out _ (by omega) (by omega), show j * 2 = j * 2 + 0 from rfl, flat_get (f := gcells) (n := 2) (fun _ => rfl) L j _ 0 hy (by omega)]; rfl
        have d1 : wr.cell? ⟨x, j * 2 + 1, none⟩ = some (.int .i64 y.t) := by
          rw [BB.out.cell, HI.out _ (by omega) (by omega), flat_get (f := gcells) (n := 2) (fun _ => rfl) L j _ 1 hy (by omega)]; rfl
        have HY := Lib.hid hy
        obtain ⟨u0, hu0⟩ : ∃ u, cs'[i * 2]? = some u := ⟨_, Array.getElem?_eq_getElem (by omega)⟩
        obtain ⟨u1, hu1⟩ : ∃ u, cs'[i * 2 + 1]? = some u := ⟨_, Array.getElem?_eq_getElem (by omega)⟩
        have xlt := BB.out.lt
        have hxq : x ≠ wr.heap.size := by omega
        have BA := Lib.hid (fun o : Obj => BB.out.alloc o)
        have KA := Lib.hid (fun o : Obj => KW.out.alloc KW.out.size o)
        clear hy
        cases he : decide (y.t ≤ y.f) with
        | true =>
          have HE := Lib.hid he
          clear he
          go_wp2_with fail
          refine (empty_cl _ y true HE.out).mono ?_
          rintro e w2 ⟨rfl, hk2⟩
          have K2 := Lib.hid hk2
          clear hk2
          go_wp2_with fail
          go_roundw
          case rel =>
            refine ⟨i, j + 1, F, cs', by omega, by omega, rfl, by go_num, ?_, HFL.out, (BA.out _).keepS K2.out (by simp), hsz, LO.out, fun s h1 h2 => HI.out s (by omega) h2, (KA.out _).trans (K2.out.mono (KA.out _).size (by simp))⟩
            rw [filter_snoc HY.out, if_neg (by have := of_decide_eq_true HE.out; simp only [full, decide_eq_true_eq]; omega), List.append_nil]
            exact HF.out
          case measure => simp [intOf] <;> omega
        | false =>
          have HE := Lib.hid he
          clear he
          go_wp2_with fail
          refine (empty_cl _ y false HE.out).mono ?_
          rintro e w2 ⟨rfl, hk2⟩
          have B2 := Lib.hid ((BA.out (.cells #[.int .i64 y.f, .int .i64 y.t] TG)).keepS hk2 (by simp))
          have Q2 := Lib.hid ((Blk.new wr TG #[.int .i64 y.f, .int .i64 y.t]).keepS hk2 (by simp))
          have KW2 := Lib.hid ((KA.out (.cells #[.int .i64 y.f, .int .i64 y.t] TG)).trans (hk2.mono (KA.out _).size (by simp)))
          obtain ⟨q, hq⟩ : ∃ q, q = wr.heap.size := ⟨_, rfl⟩
          rw [← hq] at Q2 ⊢
          have e0 : w2.cell? ⟨q, 0, none⟩ = some (.int .i64 y.f) := Q2.out.cell 0
          have e1 : w2.cell? ⟨q, 1, none⟩ = some (.int .i64 y.t) := Q2.out.cell 1
          have f0 : w2.cell? ⟨x, i * 2, none⟩ = some u0 := by rw [B2.out.cell]; exact hu0
          have f1 : w2.cell? ⟨x, i * 2 + 1, none⟩ = some u1 := by rw [B2.out.cell]; exact hu1
          have z0 := B2.out.frozen (i * 2)
          have z1 := B2.out.frozen (i * 2 + 1)
          clear hk2 hq
          go_wp2_with fail
          go_roundw
          case rel =>
            have hfull : full y = true := by have := of_decide_eq_false HE.out; simp only [full, decide_eq_true_eq]; omega
            refine ⟨i + 1, j + 1, F ++ [y], (cs'.setIfInBounds (i * 2) (.int .i64 y.f)).setIfInBounds (i * 2 + 1) (.int .i64 y.t), by omega, by omega, by go_num, by go_num, ?_, by simp [HFL.out], ?_, by simpa using hsz, fun s hs => ?_, fun s h1 h2 => ?_, ?_⟩
            · rw [filter_snoc HY.out, if_pos hfull, ← HF.out]
            · exact (B2.out.set_ (i * 2) _).set_ (i * 2 + 1) _
            · have e : gcs (F ++ [y]) = gcs F ++ [.int .i64 y.f, .int .i64 y.t] := by simp [gcs, gcells]
              have hFc : (gcs F).length = i * 2 := by rw [gcells_len, HFL.out]
              rw [e]
              rcases (by omega : s < i * 2 ∨ s = i * 2 ∨ s = i * 2 + 1) with h | rfl | rfl
              · rw [Array.getElem?_setIfInBounds_ne (by omega), Array.getElem?_setIfInBounds_ne (by omega), LO.out s h, List.getElem?_append_left (by omega)]
              · rw [Array.getElem?_setIfInBounds_ne (by omega), Array.getElem?_setIfInBounds_self_of_lt (by omega), List.getElem?_append_right (by omega), hFc, Nat.sub_self]; rfl
              · rw [Array.getElem?_setIfInBounds_self_of_lt (by simp; omega), List.getElem?_append_right (by omega), hFc, show i * 2 + 1 - i * 2 = 1 by omega]; rfl
            · rw [Array.getElem?_setIfInBounds_ne (by omega), Array.getElem?_setIfInBounds_ne (by omega)]
              exact HI.out s (by omega) h2
            · exact (KW2.out.setS (g := x) (by simp)).setS (g := x) (by simp)
          case measure => simp [intOf] <;> omega
      · obtain rfl : j = n := by omega
        have hFf : F = L.filter full := by rw [HF.out, HL.out, List.take_length]
        have hiI : (i : Int) < (j : Int) := by omega
        have hicI : (i : Int) ≤ (c : Int) := by omega
        have hcl : ∀ ty, (Builtin.clear_ #[83] ty #[.slice (some ⟨x, i * 2, none⟩) (j - i) (c - i)]).run Try.prog wr = .ok (.tuple #[]) (wr.setCells x (i * 2) (List.replicate (2 * (j - i)) (.int .i64 0))) := fun ty =>
          run_clear2 wr ty x (i * 2) (j - i) (c - i) (by omega) (fun s hs => by rw [BB.out.cell, Array.getElem?_eq_getElem (by omega)]; rfl) (fun s hs => BB.out.frozen _)
        obtain ⟨WF, hWF⟩ : ∃ W, W = wr.setCells x (i * 2) (List.replicate (2 * (j - i)) (.int .i64 0)) := ⟨_, rfl⟩
        rw [← hWF] at hcl
        obtain ⟨cf, hbf, hcf, hcl2⟩ := blk_setCells (w := wr) (List.replicate (2 * (j - i)) (.int .i64 0)) (i * 2) wr cs' BB.out
        rw [← hWF] at hbf
        have hkf : Keep w.heap.size [x] w WF := by rw [hWF]; exact keep_setCells (by simp) _ _ _ KW.out
        have HFF := Lib.hid hFf
        have BF := Lib.hid hbf
        have KF := Lib.hid hkf
        have CL2 := Lib.hid hcl2
        clear hWF hFf hbf hkf hcl2
        go_wp2_with fail
        go_ret
        refine ⟨i, rfl, by rw [← HFF.out, HFL.out], by omega, ⟨by rw [gcells_len, ← HFF.out, HFL.out], fun h0 => ⟨x, 0, rfl, BF.out.lt, fun s u hs => ?_⟩⟩, KF.out, fun x' j' hA => by cases hA; exact BF.out.frozen j'⟩
        have hs2 : s < i * 2 := by have := (List.getElem?_eq_some_iff.1 hs).1; rw [gcells_len, ← HFF.out, HFL.out] at this; exact this
        rw [Nat.zero_add, BF.out.cell, CL2.out s hs2, LO.out s hs2, HFF.out]
        exact hs
end Go.Proofs.Ytfkbcflgbjncdaa
