/- Enable. -/
import Derived.Test.YtlceepknoijndaaEServ
namespace Go.Proofs.Ytlceepknoijndaa
set_option linter.unusedVariables false
set_option linter.unusedSimpArgs false
open Go.RowKit
def setOff (s : St) (l : List Int) : St := ⟨s.most, s.L, s.c0, s.c1, s.c2, s.c3, s.c4, l⟩
theorem Sv.setMap {w w' : World} {g r : Nat} {A : Option Addr} {n c : Nat} {s : St} {l : List Int} (h : Sv w g r A n c s) (k : Keep w.heap.size [r] w w') (hm : MapB w' r l) : Sv w' g r A n c (setOff s l) :=
  ⟨h.blk.keepS k (by simpa using h.gr), h.sl.keepS k (fun x hx => by have := h.rA; simp; rintro rfl; exact this hx), h.len, hm, h.gr, h.gA, h.rA⟩
def EnPost (w : World) (g r : Nat) (A : Option Addr) (n c : Nat) (s : St) (z : Int) (e : Ending) (w' : World) : Prop := e = .returned (.int .i64 z) ∧ Sv w' g r A n c s ∧ Keep w.heap.size [r] w w'
/-- what Enable does -/
def enP (s : St) (id : Int) (on : Bool) : St × Int :=
  if knP id = false then (s, 1) else if on = true then (setOff s (s.off.erase id), 0) else if id ∉ s.off ∧ 256 ≤ s.off.length then (s, 7) else (setOff s (if id ∈ s.off then s.off else s.off ++ [id]), 0)
set_option maxHeartbeats 400000 in
theorem enable_nil (w : World) (id : Int) (on : Bool) : Calls Try.prog 9 #[.pointer none, .int .i64 id, .bool on] w fun e w' => e = .returned (.int .i64 2) ∧ w' = w := by
  go_enter Try.func9, Try.ntmps9
  go_wp2_with fail
  refine (none_nil _).mono ?_
  rintro e w' ⟨rfl, rfl⟩
  go_wp2_with fail
  go_ret
  exact ⟨rfl, rfl⟩
set_option maxRecDepth 100000 in
set_option maxHeartbeats 2000000 in
theorem enable_any (w : World) (g r : Nat) (A : Option Addr) (n c : Nat) (s s' : St) (id : Int) (on : Bool) (z : Int) (hp : enP s id on = (s', z)) (h : Sv w g r A n c s) : Calls Try.prog 9 #[pf g, .int .i64 id, .bool on] w (EnPost w g r A n c s' z) := by
  have H := Lib.hid h
  have h7 := h.c7
  have hlk := h.mp.look id
  have hlen := h.mp.len
  obtain ⟨w2, hdel, hm2, hk2⟩ := h.mp.drop id 0
  obtain ⟨w3, hsto, hm3, hk3⟩ := h.mp.store id
  have M2 := Lib.hid (h.setMap hk2 hm2)
  have M3 := Lib.hid (h.setMap hk3 hm3)
  have KK2 := Lib.hid hk2
  have KK3 := Lib.hid hk3
  clear h hm2 hk2 hm3 hk3
  unfold enP at hp
  obtain ⟨l', hl'⟩ : ∃ l', (if id ∈ s.off then s.off else s.off ++ [id]) = l' := ⟨_, rfl⟩
  rw [hl'] at hp M3
  clear hl'
  cases hkn : knP id with
  | false =>
    rw [if_pos hkn] at hp
    obtain ⟨rfl, rfl⟩ := Prod.mk.inj hp
    clear hp
    go_enter Try.func9, Try.ntmps9
    go_wp2_with fail
    refine (none_any _ g r A n c s H.out).mono ?_
    rintro e w' ⟨rfl, rfl⟩
    go_wp2_with fail
    refine (known_any _ id false hkn).mono ?_
    rintro e w' ⟨rfl, rfl⟩
    go_wp2_with fail
    go_ret
    exact ⟨rfl, H.out, Keep.refl _ _ _⟩
  | true =>
  rw [if_neg (by rw [hkn]; decide)] at hp
  cases on with
  | true =>
    rw [if_pos rfl] at hp
    obtain ⟨rfl, rfl⟩ := Prod.mk.inj hp
    clear hp hsto hlk hlen
    go_enter Try.func9, Try.ntmps9
    go_wp2_with fail
    refine (none_any _ g r A n c s H.out).mono ?_
    rintro e w' ⟨rfl, rfl⟩
    go_wp2_with fail
    refine (known_any _ id true hkn).mono ?_
    rintro e w' ⟨rfl, rfl⟩
    go_wp2_with fail
    go_ret
    exact ⟨rfl, M2.out, KK2.out⟩
  | false =>
    rw [if_neg (by decide)] at hp
    by_cases hf : id ∉ s.off ∧ 256 ≤ s.off.length
    · rw [if_pos hf] at hp
      obtain ⟨rfl, rfl⟩ := Prod.mk.inj hp
      obtain ⟨f1, f2⟩ := hf
      rw [decide_eq_false f1] at hlk
      have f3 : (256 : Int) ≤ (s.off.length : Int) := by omega
      clear hp hsto hdel f1
      go_enter Try.func9, Try.ntmps9
      go_wp2_with fail
      refine (none_any _ g r A n c s H.out).mono ?_
      rintro e w' ⟨rfl, rfl⟩
      go_wp2_with fail
      refine (known_any _ id true hkn).mono ?_
      rintro e w' ⟨rfl, rfl⟩
      go_wp2_with fail
      go_ret
      exact ⟨rfl, H.out, Keep.refl _ _ _⟩
    · rw [if_neg hf] at hp
      obtain ⟨rfl, rfl⟩ := Prod.mk.inj hp
      by_cases f1 : id ∈ s.off
      · rw [decide_eq_true f1] at hlk
        clear hp hdel hf f1
        go_enter Try.func9, Try.ntmps9
        go_wp2_with fail
        refine (none_any _ g r A n c s H.out).mono ?_
        rintro e w' ⟨rfl, rfl⟩
        go_wp2_with fail
        refine (known_any _ id true hkn).mono ?_
        rintro e w' ⟨rfl, rfl⟩
        go_wp2_with fail
        go_ret
        exact ⟨rfl, M3.out, KK3.out⟩
      · have f3 : (s.off.length : Int) < 256 := by
          have : ¬ 256 ≤ s.off.length := fun h => hf ⟨f1, h⟩
          omega
        rw [decide_eq_false f1] at hlk
        clear hp hdel hf f1
        go_enter Try.func9, Try.ntmps9
        go_wp2_with fail
        refine (none_any _ g r A n c s H.out).mono ?_
        rintro e w' ⟨rfl, rfl⟩
        go_wp2_with fail
        refine (known_any _ id true hkn).mono ?_
        rintro e w' ⟨rfl, rfl⟩
        go_wp2_with fail
        go_ret
        exact ⟨rfl, M3.out, KK3.out⟩
end Go.Proofs.Ytlceepknoijndaa
