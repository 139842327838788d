/- The reference: New, find. -/
import Derived.Test.YtlceepknoijndaaEClone
namespace Go.Proofs.Ytlceepknoijndaa
set_option linter.unusedVariables false
set_option linter.unusedSimpArgs false
open Go.RowKit
abbrev nums (l : List Int) : List Value := l.map (Value.int .i64)
abbrev rcells (s : St) (A : Option Addr) (n c : Nat) (O : Option Addr) (m d : Nat) : Array Value := #[.int .i64 s.most, .slice A n c, .slice O m d, .int .i64 s.c0, .int .i64 s.c1, .int .i64 s.c2, .int .i64 s.c3, .int .i64 s.c4]
abbrev ragg (s : St) (A : Option Addr) (n c : Nat) (O : Option Addr) (m d : Nat) : Value := .agg (rcells s A n c O m d)
/-- the rows of a reference's service -/
structure RS (w : World) (s : St) (A : Option Addr) (n c : Nat) (O : Option Addr) (m d : Nat) : Prop where
  ev : Vw w A n 4 (evs s.L)
  of : Vw w O m 1 (nums s.off)
  nl : n = s.L.length
  ml : m = s.off.length
  nc : n ≤ c
  cm : c ≤ maxLen
  md : m ≤ d
  dm : d ≤ maxLen
theorem RS.keep0 {w w' : World} {s : St} {A : Option Addr} {n c : Nat} {O : Option Addr} {m d : Nat} (h : RS w s A n c O m d) (k : Keep w.heap.size [] w w') : RS w' s A n c O m d :=
  ⟨h.ev.keep0 k, h.of.keep0 k, h.nl, h.ml, h.nc, h.cm, h.md, h.dm⟩
/-- where an ID lies, or -1 -/
def findZ (l : List Int) (id : Int) : Int := if id ∈ l then (l.idxOf id : Int) else -1
theorem nth_of {W : World} {X : Option Addr} {m k : Nat} {l : List Int} (h : Vw W X m 1 (nums l)) (hk : k < m) : ∃ b o x, X = some ⟨b, o, none⟩ ∧ l[k]? = some x ∧ W.cell? ⟨b, o + k, none⟩ = some (.int .i64 x) := by
  have hl : m = l.length := by have := h.1; simp [nums] at this; omega
  obtain ⟨b, o, u, he, _, h2, h3⟩ := h.at_ hk
  have hx : l[k]? = some l[k] := List.getElem?_eq_getElem (by omega)
  refine ⟨b, o, _, he, hx, ?_⟩
  rw [List.getElem?_map, hx] at h2
  simp at h2
  rw [h3, ← h2]
theorem idx_at {l : List Int} {k : Nat} {x : Int} (h : l[k]? = some x) (hn : x ∉ l.take k) : l.idxOf x = k := by
  obtain ⟨hk, hx⟩ := List.getElem?_eq_some_iff.1 h
  have hl : l = l.take k ++ x :: l.drop (k + 1) := by
    rw [← hx]; simp
  rw [hl, List.idxOf_append, if_neg hn, List.idxOf_cons_self, List.length_take]
  omega
set_option maxHeartbeats 1000000 in
theorem find_any (w : World) (X : Option Addr) (m c : Nat) (l : List Int) (id z : Int) (hm : m ≤ 100000) (hmc : m ≤ c) (hv : Vw w X m 1 (nums l)) (hz : findZ l id = z) : Calls Try.prog 22 #[.slice X m c, .int .i64 id] w fun e w' => e = .returned (.int .i64 z) ∧ w' = w := by
  have HV := Lib.hid hv
  have HZ := Lib.hid hz
  have HLn : Hid (m = l.length) := Lib.hid (by have := hv.1; simp [nums] at this; omega)
  have hmc' : (m : Int) ≤ (c : Int) := by omega
  clear hv hz
  go_enter Try.func22, Try.ntmps22
  go_wp2_with fail
  go_loop [5] (fun i => ∃ k : Nat, k ≤ m ∧ i = .int .i64 k ∧ id ∉ l.take k) (fun i => m - (intOf i).toNat)
  case atStart => exact ⟨0, Nat.zero_le _, rfl, by simp⟩
  case round =>
    obtain ⟨k, hk, rfl, hn⟩ := hrel
    have HN := Lib.hid hn
    clear hn
    by_cases hlt : k < m
    · have hkx : (k : Int) < (m : Int) := by omega
      obtain ⟨bb, o, y, rfl, hy, c1⟩ := nth_of HV.out hlt
      have HY := Lib.hid hy
      clear hy
      by_cases hq : y = id
      · subst hq
        have ev : z = (k : Int) := by
          rw [← HZ.out]
          unfold findZ
          rw [if_pos (List.mem_of_getElem? HY.out), idx_at HY.out HN.out]
        subst ev
        go_wp2_with fail
        go_ret
        exact ⟨rfl, rfl⟩
      · go_wp2_with fail
        go_round
        case rel => exact ⟨k + 1, by omega, by go_num, fun h => by
          rw [List.take_add_one, HY.out] at h
          rcases List.mem_append.1 h with h | h
          · exact HN.out h
          · simp at h; exact hq h.symm⟩
        case measure => simp [intOf] <;> omega
    · obtain rfl : k = m := by omega
      have ev : z = -1 := by
        rw [← HZ.out]
        have h := HN.out
        rw [List.take_of_length_le (by rw [HLn.out]; exact Nat.le_refl _)] at h
        unfold findZ
        rw [if_neg h]
      subst ev
      go_wp2_with fail
      go_ret
      exact ⟨rfl, rfl⟩
def RNPost (w : World) (z : Int) (e : Ending) (w' : World) : Prop := e = .returned (ragg (s0 z) none 0 0 none 0 0) ∧ Keep w.heap.size [] w w'
theorem rn_post (w : World) (y z : Int) (w' : World) (h : y = z) (hk : Keep w.heap.size [] w w') : RNPost w z (.returned (ragg (s0 y) none 0 0 none 0 0)) w' := by subst h; exact ⟨rfl, hk⟩
set_option maxHeartbeats 1000000 in
theorem rnew_any (w : World) (mo z : Int) (hz : min (max mo 0) 256 = z) : Calls Try.prog 14 #[.int .i64 mo] w (RNPost w z) := by
  go_enter Try.func14, Try.ntmps14
  go_wp2_with fail
  all_goals
    first
      | (refine bodyPost_ret (v := ragg (s0 0) none 0 0 none 0 0) (by simp [results, Try.results14, go_sem, s0]) rfl (rn_post w 0 z _ (by omega) ?_)
         repeat (first | exact (Keep.refl _ _ w).alloc (Nat.le_refl _) _ | refine Keep.setN ?_ (Nat.le_refl _)))
      | (refine bodyPost_ret (v := ragg (s0 256) none 0 0 none 0 0) (by simp [results, Try.results14, go_sem, s0]) rfl (rn_post w 256 z _ (by omega) ?_)
         repeat (first | exact (Keep.refl _ _ w).alloc (Nat.le_refl _) _ | refine Keep.setN ?_ (Nat.le_refl _)))
      | (refine bodyPost_ret (v := ragg (s0 mo) none 0 0 none 0 0) (by simp [results, Try.results14, go_sem, s0]) rfl (rn_post w mo z _ (by omega) ?_)
         repeat (first | exact (Keep.refl _ _ w).alloc (Nat.le_refl _) _ | refine Keep.setN ?_ (Nat.le_refl _)))
end Go.Proofs.Ytlceepknoijndaa
