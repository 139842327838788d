/- The contracts of Decode of the report and of its reference. -/
import Derived.Test.YtfkbcflgbjncdaaVeB
namespace Go.Proofs.Ytfkbcflgbjncdaa
set_option linter.unusedVariables false
set_option linter.unusedSimpArgs false
open Go.RowKit
def dec (L : List Int) : Ak := ⟨L.getD 0 0, L.getD 1 0 * 256 + L.getD 2 0, L.getD 3 0, L.getD 4 0⟩
def zak : Ak := ⟨0, 0, 0, 0⟩
def decP (L : List Int) : Ak × Int :=
  if L.length < 5 then (zak, 3) else if 5 < L.length then (zak, 6) else if (dec L).valid then (dec L, 0) else (zak, 4)
def DecPost (w : World) (r : Ak × Int) (e : Ending) (w' : World) : Prop :=
  e = .returned (.tuple #[aagg r.1, .int .i64 r.2]) ∧ Keep w.heap.size [] w w'
theorem len5 {L : List Int} (h : L.length = 5) : ∃ a b c d e, L = [a, b, c, d, e] := by
  match L, h with
  | [a, b, c, d, e], _ => exact ⟨a, b, c, d, e, rfl⟩

/-- a world on the way of Decode: the result's block, the local report's block v, the reader -/
structure DS (w W : World) (g : Nat) (X : Option Addr) (L : List Int) (v : Nat) (a : Ak) : Prop where
  keep : Keep w.heap.size [] w W
  rd : Rd W g X L
  hg : w.heap.size < g
  hX : ∀ x, x ∈ blks X → w.heap.size < x ∧ x < v
  hv : w.heap.size < v
  hgv : g < v
  res : Blk W w.heap.size 39 (acells zak)
  loc : Blk W v 39 (acells a)
theorem DS.read {w W W' : World} {g v : Nat} {X X' : Option Addr} {L L' : List Int} {a : Ak} (h : DS w W g X L v a) (hr : Rd W' g X' L') (hk : Keep W.heap.size [g] W W') (hx : blks X' = blks X) : DS w W' g X' L' v a :=
  ⟨h.keep.chain1 (Nat.le_refl _) hk (Nat.le_of_lt h.hg), hr, h.hg, by rw [hx]; exact h.hX, h.hv, h.hgv, h.res.keepS hk (by have := h.hg; simp; omega), h.loc.keepS hk (by have := h.hgv; simp; omega)⟩
theorem DS.set {w W : World} {g v : Nat} {X : Option Addr} {L : List Int} {a b : Ak} (h : DS w W g X L v a) (i j : Nat) (x y : Value)
    (hab : ((acells a).setIfInBounds i x).setIfInBounds j y = acells b) : DS w ((W.setCell ⟨v, i, none⟩ x).setCell ⟨v, j, none⟩ y) g X L v b := by
  have hgv := h.hgv
  have hv := h.hv
  have hx : v ∉ blks X := fun hm => by have := (h.hX v hm).2; omega
  refine ⟨(h.keep.setN (Nat.le_of_lt hv)).setN (Nat.le_of_lt hv), (h.rd.far (p := ⟨v, i, none⟩) (by simp only; omega) hx x).far (p := ⟨v, j, none⟩) (by simp only; omega) hx y, h.hg, h.hX, hv, hgv,
    (h.res.far (p := ⟨v, i, none⟩) (by simp only; omega) x).far (p := ⟨v, j, none⟩) (by simp only; omega) y, ?_⟩
  rw [← hab]
  exact (h.loc.set_ i x).set_ j y

set_option maxHeartbeats 2000000 in
theorem decode_len (w : World) (X : Option Addr) (m c : Nat) (L : List Int) (hl : L.length = m) (h : m < 5 ∨ 5 < m) (hm : m ≤ 140737488355328) :
    Calls Try.prog 13 #[.slice X m c] w (DecPost w (decP L)) := by
  rcases h with h | h
  · have HD : Hid (decP L = (zak, 3)) := if_pos (by omega)
    have h' : (m : Int) < 5 := by omega
    clear hl
    go_enter Try.func13, Try.ntmps13
    go_wp2_with fail
    rw [HD.out]
    refine bodyPost_ret (v := .tuple #[aagg zak, .int .i64 3]) (by simp [results, Try.results13, go_sem, zak]) rfl ⟨rfl, ?_⟩
    exact (Keep.refl _ _ w).alloc (Nat.le_refl _) _
  · have HD : Hid (decP L = (zak, 6)) := by unfold Hid decP; rw [if_neg (by omega), if_pos (by omega)]
    have h' : (5 : Int) < (m : Int) := by omega
    clear hl
    go_enter Try.func13, Try.ntmps13
    go_wp2_with fail
    rw [HD.out]
    refine bodyPost_ret (v := .tuple #[aagg zak, .int .i64 6]) (by simp [results, Try.results13, go_sem, zak]) rfl ⟨rfl, ?_⟩
    exact (Keep.refl _ _ w).alloc (Nat.le_refl _) _

set_option maxHeartbeats 4000000 in
theorem decode_five (w : World) (X : Option Addr) (c : Nat) (a b d e f : Int) (hO : Oct [a, b, d, e, f]) (hv : Vw w X 5 1 (octs [a, b, d, e, f])) :
    Calls Try.prog 13 #[.slice X 5 c] w (DecPost w (decP [a, b, d, e, f])) := by
  have HO := Lib.hid hO
  have HV := Lib.hid hv
  clear hO hv
  have hoa := HO.out a (by simp)
  have hob := HO.out b (by simp)
  have hod := HO.out d (by simp)
  have hoe := HO.out e (by simp)
  have hof := HO.out f (by simp)
  obtain ⟨oa0, oa1⟩ := hoa
  obtain ⟨ob0, ob1⟩ := hob
  obtain ⟨od0, od1⟩ := hod
  obtain ⟨oe0, oe1⟩ := hoe
  obtain ⟨of0, of1⟩ := hof
  go_enter Try.func13, Try.ntmps13
  go_wp2_with fail
  refine (rnew_any _ X 5 c [a, b, d, e, f] (by omega) (HV.out.alloc _)).mono ?_
  rintro e1 w1 ⟨g, A1, rfl, hr, hk, hg, hA⟩
  have hdk : Keep w.heap.size [] w (w1.alloc (.cells (acells zak) 39)) := (((Keep.refl _ _ w).alloc (Nat.le_refl _) _).chain0 (Nat.le_refl _) hk).alloc (by have := hk.size; simp at this; omega) _
  have hd : Hid (DS w (w1.alloc (.cells (acells zak) 39)) g A1 [a, b, d, e, f] w1.heap.size zak) := by
    have hz := hk.size
    simp at hz
    obtain ⟨m, c', h1, h2, h3, h4, h5, h6⟩ := id hr
    refine ⟨hdk, hr.alloc _, by simp at hg; omega, fun x hx => ?_, by omega, h4.lt, ((Blk.new w 39 (acells zak)).keepS hk (by simp)).alloc _, Blk.new _ _ _⟩
    have := hA x hx
    simp at this
    refine ⟨by omega, ?_⟩
    obtain ⟨b0, o0, hX, hlt, _⟩ := h5.2 (by rw [h1]; simp)
    subst hX
    simp [blks] at hx
    omega
  have HD0 := hd
  clear hdk hd hr hk hg hA
  go_wp2_with fail
  refine (ruint_z _ g A1 _ 1 1 rfl HO.out (by omega) (by omega) (by simp) HD0.out.rd).mono ?_
  rintro e1 w2 ⟨rfl, X2, hr, hk, hx⟩
  have HD2 := Lib.hid (HD0.out.read hr hk hx)
  have hb1 : beVal (List.take 1 [a, b, d, e, f]) = a := by simp [beVal]
  rw [hb1]
  clear hr hk hx hb1
  go_wp2_with fail
  refine (ruint_z _ g X2 _ 2 2 rfl (fun x hx => HO.out x (List.mem_of_mem_drop hx)) (by omega) (by omega) (by simp) HD2.out.rd).mono ?_
  rintro e1 w3 ⟨rfl, X3, hr, hk, hx⟩
  have HD3 := Lib.hid (HD2.out.read hr hk hx)
  have hb1 : beVal (List.take 2 (List.drop 1 [a, b, d, e, f])) = b * 256 + d := by simp [beVal]
  rw [hb1]
  have q0 : w3.cell? ⟨w1.heap.size, 0, none⟩ = some (.int .i64 0) := HD3.out.loc.cell 0
  have q1 : w3.cell? ⟨w1.heap.size, 1, none⟩ = some (.int .i64 0) := HD3.out.loc.cell 1
  have f0 := HD3.out.loc.frozen 0
  have f1 := HD3.out.loc.frozen 1
  clear hr hk hx hb1 HD2 HD0
  go_wp2_with fail
  obtain ⟨W3, hW⟩ : ∃ W3, W3 = (w3.setCell ⟨w1.heap.size, 0, none⟩ (.int .i64 a)).setCell ⟨w1.heap.size, 1, none⟩ (.int .i64 (b * 256 + d)) := ⟨_, rfl⟩
  have hd4 := HD3.out.set (b := ⟨a, b * 256 + d, 0, 0⟩) 0 1 (.int .i64 a) (.int .i64 (b * 256 + d)) rfl
  rw [← hW] at hd4
  have HD4 := Lib.hid hd4
  rw [← hW]
  clear hd4
  clear hW q0 q1 f0 f1 HD3
  refine (ruint_z _ g X3 _ 1 1 rfl (fun x hx => HO.out x (List.mem_of_mem_drop (List.mem_of_mem_drop hx))) (by omega) (by omega) (by simp) HD4.out.rd).mono ?_
  rintro e1 w5 ⟨rfl, X5, hr, hk, hx⟩
  have HD5 := Lib.hid (HD4.out.read hr hk hx)
  have hb1 : beVal (List.take 1 (List.drop 2 (List.drop 1 [a, b, d, e, f]))) = e := by simp [beVal]
  rw [hb1]
  clear hr hk hx hb1
  go_wp2_with fail
  refine (ruint_z _ g X5 _ 1 1 rfl (fun x hx => HO.out x (List.mem_of_mem_drop (List.mem_of_mem_drop (List.mem_of_mem_drop hx)))) (by omega) (by omega) (by simp) HD5.out.rd).mono ?_
  rintro e1 w6 ⟨rfl, X6, hr, hk, hx⟩
  have HD6 := Lib.hid (HD5.out.read hr hk hx)
  have hb1 : beVal (List.take 1 (List.drop 1 (List.drop 2 (List.drop 1 [a, b, d, e, f])))) = f := by simp [beVal]
  rw [hb1]
  have r0 : w6.cell? ⟨w1.heap.size, 0, none⟩ = some (.int .i64 a) := HD6.out.loc.cell 0
  have r1 : w6.cell? ⟨w1.heap.size, 1, none⟩ = some (.int .i64 (b * 256 + d)) := HD6.out.loc.cell 1
  have q0 : w6.cell? ⟨w1.heap.size, 2, none⟩ = some (.int .i64 0) := HD6.out.loc.cell 2
  have q1 : w6.cell? ⟨w1.heap.size, 3, none⟩ = some (.int .i64 0) := HD6.out.loc.cell 3
  have f0 := HD6.out.loc.frozen 2
  have f1 := HD6.out.loc.frozen 3
  clear hr hk hx hb1 HD5 HD4
  go_wp2_with fail
  obtain ⟨W6, hW⟩ : ∃ W6, W6 = (w6.setCell ⟨w1.heap.size, 2, none⟩ (.int .i64 e)).setCell ⟨w1.heap.size, 3, none⟩ (.int .i64 f) := ⟨_, rfl⟩
  have hd7 := HD6.out.set (b := ⟨a, b * 256 + d, e, f⟩) 2 3 (.int .i64 e) (.int .i64 f) rfl
  rw [← hW] at hd7
  have HD7 := Lib.hid hd7
  rw [← hW]
  clear hW hd7 q0 q1 f0 f1 r0 r1 HD6
  cases hva : (⟨a, b * 256 + d, e, f⟩ : Ak).valid with
  | false =>
    have HVA := Lib.hid hva
    have HDD : Hid (decP [a, b, d, e, f] = (zak, 4)) := by
      unfold Hid decP
      rw [if_neg (by simp), if_neg (by simp), if_neg (by simpa [dec] using hva)]
    clear hva
    refine (valid_v _ ⟨a, b * 256 + d, e, f⟩ false HVA.out).mono ?_
    rintro e1 w8 ⟨rfl, hw⟩
    have HR : Hid (Blk w8 w.heap.size 39 (acells zak)) := by rw [← hw]; exact HD7.out.res.alloc _
    have HK : Hid (Keep w.heap.size [] w w8) := by rw [← hw]; exact HD7.out.keep.alloc HD7.out.keep.size _
    have q0 : w8.cell? ⟨w.heap.size, 0, none⟩ = some (.int .i64 0) := HR.out.cell 0
    have q1 : w8.cell? ⟨w.heap.size, 1, none⟩ = some (.int .i64 0) := HR.out.cell 1
    have q2 : w8.cell? ⟨w.heap.size, 2, none⟩ = some (.int .i64 0) := HR.out.cell 2
    have q3 : w8.cell? ⟨w.heap.size, 3, none⟩ = some (.int .i64 0) := HR.out.cell 3
    have f0 := HR.out.frozen 0
    have f1 := HR.out.frozen 1
    have f2 := HR.out.frozen 2
    have f3 := HR.out.frozen 3
    clear hw HD7
    go_wp2_with fail
    rw [HDD.out]
    refine bodyPost_ret (v := .tuple #[aagg zak, .int .i64 4]) (by simp [results, Try.results13, go_sem, zak, q0, q1, q2, q3]) rfl ⟨rfl, ?_⟩
    repeat (first | exact HK.out | refine Keep.setN ?_ (Nat.le_refl _))
  | true =>
    have HVA := Lib.hid hva
    have HDD : Hid (decP [a, b, d, e, f] = (⟨a, b * 256 + d, e, f⟩, 0)) := by
      unfold Hid decP
      rw [if_neg (by simp), if_neg (by simp), if_pos (by simpa [dec] using hva)]
      rfl
    clear hva
    refine (valid_v _ ⟨a, b * 256 + d, e, f⟩ true HVA.out).mono ?_
    rintro e1 w8 ⟨rfl, hw⟩
    have HR : Hid (Blk w8 w.heap.size 39 (acells zak)) := by rw [← hw]; exact HD7.out.res.alloc _
    have HL : Hid (Blk w8 w1.heap.size 39 (acells ⟨a, b * 256 + d, e, f⟩)) := by rw [← hw]; exact HD7.out.loc.alloc _
    have HK : Hid (Keep w.heap.size [] w w8) := by rw [← hw]; exact HD7.out.keep.alloc HD7.out.keep.size _
    have q0 : w8.cell? ⟨w.heap.size, 0, none⟩ = some (.int .i64 0) := HR.out.cell 0
    have q1 : w8.cell? ⟨w.heap.size, 1, none⟩ = some (.int .i64 0) := HR.out.cell 1
    have q2 : w8.cell? ⟨w.heap.size, 2, none⟩ = some (.int .i64 0) := HR.out.cell 2
    have q3 : w8.cell? ⟨w.heap.size, 3, none⟩ = some (.int .i64 0) := HR.out.cell 3
    have f0 := HR.out.frozen 0
    have f1 := HR.out.frozen 1
    have f2 := HR.out.frozen 2
    have f3 := HR.out.frozen 3
    have r0 : w8.cell? ⟨w1.heap.size, 0, none⟩ = some (.int .i64 a) := HL.out.cell 0
    have r1 : w8.cell? ⟨w1.heap.size, 1, none⟩ = some (.int .i64 (b * 256 + d)) := HL.out.cell 1
    have r2 : w8.cell? ⟨w1.heap.size, 2, none⟩ = some (.int .i64 e) := HL.out.cell 2
    have r3 : w8.cell? ⟨w1.heap.size, 3, none⟩ = some (.int .i64 f) := HL.out.cell 3
    clear hw HD7
    go_wp2_with fail
    rw [HDD.out]
    refine bodyPost_ret (v := .tuple #[aagg ⟨a, b * 256 + d, e, f⟩, .int .i64 0]) (by simp [results, Try.results13, go_sem, q0, q1, q2, q3]) rfl ⟨rfl, ?_⟩
    repeat (first | exact HK.out | refine Keep.setN ?_ (Nat.le_refl _))

theorem decode_any (w : World) (X : Option Addr) (m c : Nat) (L : List Int) (hO : Oct L) (hm : m ≤ 140737488355328) (hv : Vw w X m 1 (octs L)) :
    Calls Try.prog 13 #[.slice X m c] w (DecPost w (decP L)) := by
  have hl : L.length = m := by simpa [octs] using hv.1
  by_cases h : m < 5 ∨ 5 < m
  · exact decode_len w X m c L hl h hm
  · obtain rfl : m = 5 := by omega
    obtain ⟨a, b, d, e, f, rfl⟩ := len5 hl
    exact decode_five w X c a b d e f hO hv
end Go.Proofs.Ytfkbcflgbjncdaa
