/- The protocol data units: within, name, gaps, rest, empty. -/
import Derived.Test.YtfkbcflgbjncdaaTxP
import Derived.Test.YtfkbcflgbjncdaaBig
namespace Go.Proofs.Ytfkbcflgbjncdaa
set_option linter.unusedVariables false
set_option linter.unusedSimpArgs false
open Go.RowKit
abbrev TP : TypeId := 85
abbrev TG : TypeId := 158
/-- where its parts lie -/
structure Lc where
  D : Option Addr
  dn : Nat
  dc : Nat
  G : Option Addr
  gn : Nat
  gc : Nat
def pcs (p : Pd) (l : Lc) : Array Value := #[.int .i64 p.kind, .int .i64 p.src, .int .i64 p.num, .int .i64 p.cls, .string (strOfNums p.name), .int .i64 p.size, .int .i64 p.off, .slice l.D l.dn l.dc, .int .u32 p.sum, .int .i64 p.code, .slice l.G l.gn l.gc]
def gcells (g : Gp) : List Value := [.int .i64 g.f, .int .i64 g.t]
structure PIn (w : World) (p : Pd) (l : Lc) : Prop where
  on : Oct p.name
  od : Oct p.data
  vd : Vw w l.D l.dn 1 (octs p.data)
  vg : Vw w l.G l.gn 2 (p.gaps.flatMap gcells)
  cd : l.dn ≤ l.dc ∧ l.dc ≤ maxLen
  cg : l.gn ≤ l.gc ∧ l.gc ≤ maxLen
  nl : p.name.length ≤ 100000
  dl : l.dn ≤ 100000
  gl : l.gn ≤ 100000
  sm : 0 ≤ p.sum ∧ p.sum < 4294967296
theorem PIn.keep0 {w w' : World} {p : Pd} {l : Lc} (h : PIn w p l) (k : Keep w.heap.size [] w w') : PIn w' p l :=
  ⟨h.on, h.od, h.vd.keep0 k, h.vg.keep0 k, h.cd, h.cg, h.nl, h.dl, h.gl, h.sm⟩
theorem gcells_len (L : List Gp) : (L.flatMap gcells).length = L.length * 2 := by
  induction L with
  | nil => rfl
  | cons g L ih => simp only [List.flatMap_cons, gcells, List.length_append, List.length_cons, List.length_nil, ih]; omega
theorem PIn.dlen {w : World} {p : Pd} {l : Lc} (h : PIn w p l) : l.dn = p.data.length := by have := h.vd.1; simp [octs] at this; omega
theorem PIn.glen {w : World} {p : Pd} {l : Lc} (h : PIn w p l) : l.gn = p.gaps.length := by have := h.vg.1; rw [gcells_len] at this; omega
theorem gap_at {W : World} {G : Option Addr} {n k : Nat} {L : List Gp} (h : Vw W G n 2 (L.flatMap gcells)) (hk : k < n) : ∃ b o g, G = some ⟨b, o, none⟩ ∧ L[k]? = some g ∧ W.cell? ⟨b, o + k * 2, none⟩ = some (.int .i64 g.f) ∧ W.cell? ⟨b, o + k * 2 + 1, none⟩ = some (.int .i64 g.t) := by
  have hl : n = L.length := by have := h.1; rw [gcells_len] at this; omega
  obtain ⟨b, o, he, _, hc⟩ := h.2 (by omega)
  have hg : L[k]? = some L[k] := List.getElem?_eq_getElem (by omega)
  refine ⟨b, o, _, he, hg, ?_, ?_⟩
  · exact hc (k * 2) _ (by rw [show k * 2 = k * 2 + 0 from rfl, flat_get (f := gcells) (n := 2) (fun _ => rfl) L k _ 0 hg (by omega)]; rfl)
  · have := hc (k * 2 + 1) _ (by rw [flat_get (f := gcells) (n := 2) (fun _ => rfl) L k _ 1 hg (by omega)]; rfl)
    rw [← Nat.add_assoc] at this
    exact this
theorem within_b (w : World) (n a b : Int) (v : Bool) (hv : inB n a b = v) : Calls Try.prog 123 #[.int .i64 n, .int .i64 a, .int .i64 b] w fun e w' => e = .returned (.bool v) ∧ w = w' := by
  by_cases h1 : a ≤ n
  · have ev : v = decide (n ≤ b) := by rw [← hv]; unfold inB; rw [decide_eq_true h1]; rfl
    subst ev
    clear hv
    go_enter Try.func123, Try.ntmps123
    go_wp2_with fail
    go_ret
    exact ⟨rfl, rfl⟩
  · have ev : v = false := by rw [← hv]; unfold inB; rw [decide_eq_false h1]; rfl
    subst ev
    clear hv
    have h1' : n < a := by omega
    go_enter Try.func123, Try.ntmps123
    go_wp2_with fail
    go_ret
    exact ⟨rfl, rfl⟩
theorem str_index (W : World) (L : List Int) (hO : Oct L) (k : Nat) (x : Int) (hx : L[k]? = some x) : (Instr.index 9 (.string (strOfNums L)) (.int .i64 (k : Int))).run Try.prog W = .ok (.int .u8 x) W := by
  have hk : k < L.length := (List.getElem?_eq_some_iff.1 hx).1
  have hs := strOfNums_size L
  rw [run_index_string W 9 _ _ _ Try.underlying9, dif_pos ⟨by omega, by omega⟩]
  have hb := hO x (List.mem_of_getElem? hx)
  have e : ((strOfNums L)[(k : Int).toNat]'(by rw [hs]; omega)).toNat = x.toNat := by
    have h2 : (strOfNums L)[(k : Int).toNat]'(by rw [hs]; omega) = UInt8.ofNat x.toNat := by
      have hd := strOfNums_data L
      have h3 : (strOfNums L).data.toList[k]? = some (UInt8.ofNat x.toNat) := by rw [hd, List.getElem?_map, hx]; rfl
      simp only [Int.toNat_natCast]
      rw [Array.getElem?_toList] at h3
      exact (Array.getElem?_eq_some_iff.1 h3).2
    rw [h2]
    simp
    omega
  rw [e]
  congr 2
  omega
set_option maxHeartbeats 1000000 in
theorem pname_b (w : World) (L : List Int) (v : Bool) (hO : Oct L) (hl : L.length ≤ 100000) (hv : nameB L = v) : Calls Try.prog 126 #[.string (strOfNums L)] w fun e w' => e = .returned (.bool v) ∧ w = w' := by
  have HO := Lib.hid hO
  have HS := Lib.hid (strOfNums_size L)
  have hix := fun (W : World) (k : Nat) (x : Int) (hx : L[k]? = some x) => str_index W L hO k x hx
  obtain ⟨s, hs⟩ : ∃ s, strOfNums L = s := ⟨_, rfl⟩
  rw [hs] at HS hix ⊢
  have HIX := Lib.hid hix
  have HV := Lib.hid hv
  have hsz : s.size ≤ 100000 := by have := HS.out; omega
  clear hO hs hix hv
  go_enter Try.func126, Try.ntmps126
  go_wp2_with fail
  go_loop [6] (fun j => ∃ k : Nat, k ≤ L.length ∧ j = .int .i64 k ∧ (L.take k).all charB = true) (fun j => L.length - (intOf j).toNat)
  case atStart => exact ⟨0, Nat.zero_le _, rfl, rfl⟩
  case round =>
    obtain ⟨k, hk, rfl, hnk⟩ := hrel
    have HN := Lib.hid hnk
    clear hnk
    by_cases hlt : k < L.length
    · have hkx : (k : Int) < (s.size : Int) := by have := HS.out; omega
      obtain ⟨x, hx⟩ : ∃ x, L[k]? = some x := ⟨_, List.getElem?_eq_getElem hlt⟩
      have hi := fun W => HIX.out W k x hx
      have HX := Lib.hid hx
      clear hx
      by_cases h1 : x < 33
      · have ev : v = false := by
          rw [← HV.out]; unfold nameB
          have : L.all charB = false := List.all_eq_false.2 ⟨x, List.mem_of_getElem? HX.out, by unfold charB; rw [decide_eq_false (by omega)]; simp⟩
          rw [this]; rfl
        subst ev
        go_wp2_with fail
        go_ret
        exact ⟨rfl, rfl⟩
      · by_cases h2 : 126 < x
        · have ev : v = false := by
            rw [← HV.out]; unfold nameB
            have : L.all charB = false := List.all_eq_false.2 ⟨x, List.mem_of_getElem? HX.out, by unfold charB; rw [decide_eq_false (show ¬ x ≤ 126 by omega)]; simp⟩
            rw [this]; rfl
          subst ev
          go_wp2_with fail
          go_ret
          exact ⟨rfl, rfl⟩
        · go_wp2_with fail
          go_round
          case rel => exact ⟨k + 1, by omega, by go_num, by
            rw [List.take_add_one, HX.out, List.all_append, HN.out]
            simp [charB]; omega⟩
          case measure => simp [intOf] <;> omega
    · obtain rfl : k = L.length := by omega
      have hkx : ¬ ((L.length : Nat) : Int) < (s.size : Int) := by have := HS.out; omega
      have ev : inB ((s.size : Nat) : Int) 1 64 = v := by
        have h := HN.out
        rw [List.take_length] at h
        rw [← HV.out, HS.out]; unfold nameB; rw [h]; rfl
      have EV := Lib.hid ev
      clear ev
      go_wp2_with fail
      refine (within_b _ _ _ _ v EV.out).mono ?_
      rintro e w' ⟨rfl, rfl⟩
      go_wp2_with fail
      go_ret
      exact ⟨rfl, rfl⟩
theorem gapGo_bad {b : Bool} {last : Int} {g : Gp} {L : List Gp} (h0 : ¬ (b = true ∧ g.f = 0 ∧ g.t = 0)) (h : g.f ≤ last ∨ g.t ≤ g.f ∨ 65536 < g.t) : gapGo b last (g :: L) = false := by
  unfold gapGo; rw [if_neg h0, if_pos h]
theorem gapGo_next {b : Bool} {last : Int} {g : Gp} {L : List Gp} (h0 : ¬ (b = true ∧ g.f = 0 ∧ g.t = 0)) (h : ¬ (g.f ≤ last ∨ g.t ≤ g.f ∨ 65536 < g.t)) : gapGo b last (g :: L) = gapGo false g.t L := by
  rw [gapGo, if_neg h0, if_neg h]
theorem gapGo_zero {b : Bool} {last : Int} {g : Gp} {L : List Gp} (h0 : b = true ∧ g.f = 0 ∧ g.t = 0) : gapGo b last (g :: L) = gapGo false last L := by
  rw [gapGo, if_pos h0]
theorem drop_cons {α : Type} {L : List α} {k : Nat} {x : α} (h : L[k]? = some x) : L.drop k = x :: L.drop (k + 1) := by
  obtain ⟨hk, rfl⟩ := List.getElem?_eq_some_iff.1 h
  exact List.drop_eq_getElem_cons hk
set_option maxHeartbeats 4000000 in
theorem pgaps_b (w : World) (G : Option Addr) (n c : Nat) (L : List Gp) (v : Bool) (hnc : n ≤ c) (hcm : c ≤ maxLen) (hn : n ≤ 100000) (hg : Vw w G n 2 (L.flatMap gcells)) (hv : gapsB L = v) : Calls Try.prog 127 #[.slice G n c] w fun e w' => e = .returned (.bool v) ∧ Keep w.heap.size [] w w' := by
  have hnl : n = L.length := by have := hg.1; rw [gcells_len] at this; omega
  have HG := Lib.hid hg
  have HNL := Lib.hid hnl
  have HV := Lib.hid hv
  have hncI : (n : Int) ≤ (c : Int) := by omega
  have hcI : (c : Int) ≤ 9223372036854775807 := by unfold maxLen at hcm; omega
  clear hg hnl hv
  go_enter Try.func127, Try.ntmps127
  go_wp2_with fail
  go_loopw [3, 8] (fun u j wr => ∃ (k : Nat) (last : Int), k ≤ n ∧ j = .int .i64 k ∧ u = .int .i64 last ∧ -1 ≤ last ∧ last ≤ 65536 ∧ gapGo true (-1) L = gapGo (decide (k = 0)) last (L.drop k) ∧ Keep w.heap.size [] w wr) (fun _ j _ => n - (intOf j).toNat)
  case atStart => exact ⟨0, -1, Nat.zero_le _, rfl, rfl, by omega, by omega, rfl, Keep.refl _ _ _⟩
  case round =>
    obtain ⟨k, last, hk, rfl, rfl, hl1, hl2, hgo, hkw⟩ := hrel
    have HGO := Lib.hid hgo
    have KW := Lib.hid hkw
    clear hgo hkw
    by_cases hlt : k < n
    · have hkx : (k : Int) < (n : Int) := by omega
      obtain ⟨b, o, g, rfl, hgk, d0, d1⟩ := gap_at (HG.out.keep0 KW.out) hlt
      have HGK := Lib.hid (drop_cons hgk)
      clear hgk
      have hbad : ∀ (_ : ¬ (k = 0 ∧ g.f = 0 ∧ g.t = 0)) (_ : g.f ≤ last ∨ g.t ≤ g.f ∨ 65536 < g.t), v = false := fun h0 h => by
        rw [← HV.out]; unfold gapsB
        rw [HGO.out, HGK.out, gapGo_bad (by rw [decide_eq_true_eq]; exact h0) h]; rfl
      have HBAD := Lib.hid hbad
      have K2 : Hid (∀ cs t, Keep w.heap.size [] w (wr.alloc (.cells cs t))) := Lib.hid (fun cs t => KW.out.alloc KW.out.size _)
      clear hbad
      by_cases hz : k = 0 ∧ g.f = 0 ∧ g.t = 0
      · obtain ⟨rfl, hz1, hz2⟩ := hz
        obtain ⟨gf, gt⟩ := g
        simp only at hz1 hz2
        subst hz1; subst hz2
        simp only [Nat.zero_mul, Nat.add_zero] at d0 d1
        go_wp2_with fail
        go_roundw
        case rel => exact ⟨1, last, by omega, by go_num, rfl, hl1, hl2, by rw [HGO.out, HGK.out, gapGo_zero ⟨by simp, rfl, rfl⟩]; rfl, K2.out _ _⟩
        case measure => simp [intOf] <;> omega
      · have three : ¬ k = 0 ∨ (k = 0 ∧ ¬ g.f = 0) ∨ (k = 0 ∧ g.f = 0 ∧ ¬ g.t = 0) := by
          by_cases h0 : k = 0
          · by_cases h1 : g.f = 0
            · exact .inr (.inr ⟨h0, h1, fun h2 => hz ⟨h0, h1, h2⟩⟩)
            · exact .inr (.inl ⟨h0, h1⟩)
          · exact .inl h0
        have HZ := Lib.hid hz
        clear hz
        rcases three with hk0 | ⟨rfl, hf⟩ | ⟨rfl, hf, ht⟩
        · have hk0' : ¬ (k : Int) = 0 := by omega
          by_cases b1 : g.f ≤ last
          · have ev := HBAD.out HZ.out (.inl b1)
            subst ev
            go_wp2_with fail
            go_ret
            exact ⟨rfl, K2.out _ _⟩
          have b1' : last < g.f := by omega
          have b0 : 0 ≤ g.f := by omega
          clear b1
          by_cases b2 : g.t ≤ g.f
          · have ev := HBAD.out HZ.out (.inr (.inl b2))
            subst ev
            go_wp2_with fail
            go_ret
            exact ⟨rfl, K2.out _ _⟩
          have b2' : g.f < g.t := by omega
          clear b2
          by_cases b3 : 65536 < g.t
          · have ev := HBAD.out HZ.out (.inr (.inr b3))
            subst ev
            go_wp2_with fail
            go_ret
            exact ⟨rfl, K2.out _ _⟩
          have b3' : g.t ≤ 65536 := by omega
          clear b3
          go_wp2_with fail
          go_roundw
          case rel => exact ⟨k + 1, g.t, by omega, by go_num, rfl, by omega, by omega, by rw [HGO.out, HGK.out, gapGo_next (by rw [decide_eq_true_eq]; exact HZ.out) (by omega)]; rfl, K2.out _ _⟩
          case measure => simp [intOf] <;> omega
        · simp only [Nat.zero_mul, Nat.add_zero] at d0 d1
          by_cases b1 : g.f ≤ last
          · have ev := HBAD.out HZ.out (.inl b1)
            subst ev
            go_wp2_with fail
            go_ret
            exact ⟨rfl, K2.out _ _⟩
          have b1' : last < g.f := by omega
          have b0 : 0 ≤ g.f := by omega
          clear b1
          by_cases b2 : g.t ≤ g.f
          · have ev := HBAD.out HZ.out (.inr (.inl b2))
            subst ev
            go_wp2_with fail
            go_ret
            exact ⟨rfl, K2.out _ _⟩
          have b2' : g.f < g.t := by omega
          clear b2
          by_cases b3 : 65536 < g.t
          · have ev := HBAD.out HZ.out (.inr (.inr b3))
            subst ev
            go_wp2_with fail
            go_ret
            exact ⟨rfl, K2.out _ _⟩
          have b3' : g.t ≤ 65536 := by omega
          clear b3
          go_wp2_with fail
          go_roundw
          case rel => exact ⟨0 + 1, g.t, by omega, by go_num, rfl, by omega, by omega, by rw [HGO.out, HGK.out, gapGo_next (by rw [decide_eq_true_eq]; exact HZ.out) (by omega)]; rfl, K2.out _ _⟩
          case measure => simp [intOf] <;> omega
        · simp only [Nat.zero_mul, Nat.add_zero] at d0 d1
          by_cases b1 : g.f ≤ last
          · have ev := HBAD.out HZ.out (.inl b1)
            subst ev
            go_wp2_with fail
            go_ret
            exact ⟨rfl, K2.out _ _⟩
          have b1' : last < g.f := by omega
          have b0 : 0 ≤ g.f := by omega
          clear b1
          by_cases b2 : g.t ≤ g.f
          · have ev := HBAD.out HZ.out (.inr (.inl b2))
            subst ev
            go_wp2_with fail
            go_ret
            exact ⟨rfl, K2.out _ _⟩
          have b2' : g.f < g.t := by omega
          clear b2
          by_cases b3 : 65536 < g.t
          · have ev := HBAD.out HZ.out (.inr (.inr b3))
            subst ev
            go_wp2_with fail
            go_ret
            exact ⟨rfl, K2.out _ _⟩
          have b3' : g.t ≤ 65536 := by omega
          clear b3
          go_wp2_with fail
          go_roundw
          case rel => exact ⟨0 + 1, g.t, by omega, by go_num, rfl, by omega, by omega, by rw [HGO.out, HGK.out, gapGo_next (by rw [decide_eq_true_eq]; exact HZ.out) (by omega)]; rfl, K2.out _ _⟩
          case measure => simp [intOf] <;> omega
    · obtain rfl : k = n := by omega
      have ev : inB (k : Int) 1 16 = v := by
        have h := HGO.out
        rw [HNL.out, List.drop_length] at h
        rw [← HV.out]; unfold gapsB; rw [h, HNL.out]
        unfold gapGo; rfl
      have EV := Lib.hid ev
      clear ev
      go_wp2_with fail
      refine (within_b _ _ _ _ v EV.out).mono ?_
      rintro e w' ⟨rfl, rfl⟩
      go_wp2_with fail
      go_ret
      exact ⟨rfl, KW.out⟩
end Go.Proofs.Ytfkbcflgbjncdaa
