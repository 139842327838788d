/- The tracker: Issue: its contract. -/
import Derived.Test.YtfkbcflgbjncdaaTrB
namespace Go.Proofs.Ytfkbcflgbjncdaa
set_option linter.unusedVariables false
set_option linter.unusedSimpArgs false
open Go.RowKit
theorem issue_nil (w : World) (s n now : Int) : Calls Try.prog 8 #[.pointer none, .int .i64 s, .int .i64 n, .int .i64 now] w fun e w' => e = .returned (.int .i64 2) ∧ w = w' := by
  go_enter Try.func8, Try.ntmps8
  go_wp2_with fail
  refine (tvalid_nil _).mono ?_
  rintro e w' ⟨rfl, rfl⟩
  go_wp2_with fail
  go_ret
  exact ⟨rfl, rfl⟩
def okSN (s n : Int) : Bool := decide (0 ≤ s) && decide (s ≤ 15) && decide (0 ≤ n) && decide (n ≤ 65535)
theorem okSN_iff (s n : Int) : okSN s n = true ↔ 0 ≤ s ∧ s ≤ 15 ∧ 0 ≤ n ∧ n ≤ 65535 := by simp [okSN, and_assoc]
def issueP (t : Tk) (s n now : Int) : Int × Tk :=
  if okSN s n = true then
    match findI t.D s n with
    | some _ => (9, ⟨adv t.now now, t.to, t.D⟩)
    | none => (0, ⟨adv t.now now, t.to, t.D ++ [⟨s, n, adv t.now now, 0, 0⟩]⟩)
  else (1, ⟨adv t.now now, t.to, t.D⟩)
theorem Tr.nonnil {w : World} {g : Nat} {A : Option Addr} {t : Tk} (h : Tr w g A t) {s n : Int} {i : Nat} (hi : findI t.D s n = some i) : ∃ b x, A = some ⟨b, 0, none⟩ ∧ t.D[i]? = some x ∧ hit s n x = true := by
  obtain ⟨m, c, hm, hb, hs, _⟩ := h
  unfold findI at hi
  rw [List.findIdx?_eq_some_iff_getElem] at hi
  obtain ⟨h1, h2, _⟩ := hi
  obtain ⟨b, hA, _⟩ := hs.icell hm (List.getElem?_eq_getElem h1)
  exact ⟨b, _, hA, List.getElem?_eq_getElem h1, h2⟩
def TPost (g : Nat) (w : World) (A : Option Addr) (k : Int) (t' : Tk) (e : Ending) (w' : World) : Prop :=
  e = .returned (.int .i64 k) ∧ ∃ A', Tr w' g A' t' ∧ Keep w.heap.size (g :: blks A) w w' ∧ ∀ x, x ∈ blks A' → x ∈ blks A ∨ w.heap.size ≤ x
theorem infoIs : (Try.prog.info? 109).map (fun i => (i.zero, i.size, i.bytes)) = some (some (.agg #[.int .i64 0, .int .i64 0, .int .i64 0, .int .i64 0, .int .i64 0]), 5, 40) := by kernel_rfl
theorem Keep.weaken {B : Nat} {S S' : List Nat} {w w' : World} (h : Keep B S w w') (hS : ∀ x, x ∈ S → x ∈ S') : Keep B S' w w' := h.mono (Nat.le_refl _) (fun x _ hx => hS x hx)
theorem issue_post {w w1 w3 : World} {o : Obj} {g m c c2 : Nat} {A A2 : Option Addr} {to nw s n : Int} {D : List Is} (hm : m = D.length) (hmm : m + 1 ≤ 1000) (hg : g < w.heap.size) (hk1 : Keep w.heap.size [g] w w1)
    (hs3 : Sl w3 109 5 A2 (m + 1) c2 (D.flatMap icells ++ (#[.int .i64 s, .int .i64 n, .int .i64 nw, .int .i64 0, .int .i64 0] : Array Value).toList))
    (hk3 : Keep (w1.alloc o).drew.heap.size (blks A) (w1.alloc o) w3) (hb3 : ∀ g, g ∈ blks A2 → g ∈ blks A ∨ g = (w1.alloc o).drew.heap.size)
    (hb4 : Blk w3 g 103 #[.bool true, .int .i64 nw, .int .i64 to, .slice A m c]) (hok : (Tk.mk nw to D).Ok) :
    TPost g w A 0 ⟨nw, to, D ++ [⟨s, n, nw, 0, 0⟩]⟩ (.returned (.int .i64 0)) (w3.setCell ⟨g, 3, none⟩ (.slice A2 (m + 1) c2)) := by
  have hsz : w.heap.size ≤ (w1.alloc o).heap.size := Nat.le_trans hk1.size ((Keep.refl w1.heap.size [] w1).alloc (Nat.le_refl _) o).size
  refine ⟨rfl, A2, ⟨m + 1, c2, by simp [hm], hb4.set_ 3 _, ?_, ⟨hok.1, hok.2.1, ?_⟩, hmm⟩, ?_, ?_⟩
  · have e : (D ++ [(⟨s, n, nw, 0, 0⟩ : Is)]).flatMap icells = D.flatMap icells ++ (#[.int .i64 s, .int .i64 n, .int .i64 nw, .int .i64 0, .int .i64 0] : Array Value).toList := by simp [icells]
    simp only [e]
    exact hs3.far _ (hs3.ne_blk hb4 (by decide))
  · intro x hx
    rcases List.mem_append.1 hx with h | h
    · exact hok.2.2 x h
    · have e : x = ⟨s, n, nw, 0, 0⟩ := by simpa using h
      subst e
      exact hok.1
  · have k1 : Keep w.heap.size (g :: blks A) w (w1.alloc o) := (hk1.weaken (fun x hx => by simp_all)).alloc hk1.size o
    have k3 : Keep w.heap.size (g :: blks A) (w1.alloc o) w3 := hk3.mono hsz (fun x _ hx => List.mem_cons_of_mem _ hx)
    exact (k1.trans k3).setS (List.mem_cons_self ..)
  · intro x hx
    rcases hb3 x hx with h | h
    · exact .inl h
    · exact .inr (by rw [h]; exact hsz)
set_option maxHeartbeats 2000000 in
theorem issue_any (w : World) (g : Nat) (A : Option Addr) (t t' : Tk) (s n now k : Int) (hr : issueP t s n now = (k, t')) (hmx : t.D.length + 1 ≤ 1000) (h : Tr w g A t) :
    Calls Try.prog 8 #[bptr g, .int .i64 s, .int .i64 n, .int .i64 now] w (TPost g w A k t') := by
  have HT := Lib.hid h
  have hgl := Lib.hid h.lt
  have h0 : w.cell? ⟨g, 0, none⟩ = some (.bool true) := by obtain ⟨_, _, _, hb, _⟩ := h; exact hb.cell 0
  clear h
  have HR := Lib.hid hr
  clear hr
  obtain ⟨nw, hnw⟩ : ∃ nw, adv t.now now = nw := ⟨_, rfl⟩
  have HN := Lib.hid hnw
  clear hnw
  go_enter Try.func8, Try.ntmps8
  go_wp2_with fail
  refine (tvalid_any _ g (by exact h0)).mono ?_
  rintro e w' ⟨rfl, rfl⟩
  go_wp2_with fail
  refine (tadv_any _ g A t now nw HN.out HT.out).mono ?_
  rintro e w1 ⟨rfl, ht1, hk1⟩
  have HT1 := Lib.hid ht1
  have HK1 := Lib.hid hk1
  clear ht1 hk1 h0
  have bad : okSN s n = false → k = 1 ∧ t' = ⟨nw, t.to, t.D⟩ := by
    intro h
    have := HR.out
    unfold issueP at this
    rw [if_neg (by simp [h]), HN.out] at this
    exact ⟨(Prod.mk.inj this).1.symm, (Prod.mk.inj this).2.symm⟩
  have BAD := Lib.hid bad
  clear bad
  have post : TPost g w A 1 ⟨nw, t.to, t.D⟩ (.returned (.int .i64 1)) w1 := ⟨rfl, A, HT1.out, HK1.out.weaken (fun x hx => by simp_all), fun x hx => .inl hx⟩
  have POST := Lib.hid post
  clear post
  by_cases h1 : s < 0
  · obtain ⟨rfl, rfl⟩ := BAD.out (Bool.eq_false_iff.2 fun h => by rw [okSN_iff] at h; omega)
    go_wp2_with fail
    go_ret
    exact POST.out
  by_cases h2 : 15 < s
  · obtain ⟨rfl, rfl⟩ := BAD.out (Bool.eq_false_iff.2 fun h => by rw [okSN_iff] at h; omega)
    go_wp2_with fail
    go_ret
    exact POST.out
  by_cases h3 : n < 0
  · obtain ⟨rfl, rfl⟩ := BAD.out (Bool.eq_false_iff.2 fun h => by rw [okSN_iff] at h; omega)
    go_wp2_with fail
    go_ret
    exact POST.out
  by_cases h4 : 65535 < n
  · obtain ⟨rfl, rfl⟩ := BAD.out (Bool.eq_false_iff.2 fun h => by rw [okSN_iff] at h; omega)
    go_wp2_with fail
    go_ret
    exact POST.out
  clear BAD POST
  have hok : okSN s n = true := (okSN_iff s n).2 ⟨by omega, by omega, by omega, by omega⟩
  obtain ⟨r, hfr⟩ : ∃ r, findI t.D s n = r := ⟨_, rfl⟩
  have HF := Lib.hid hfr
  have HOK := Lib.hid hok
  clear hfr hok
  go_wp2_with fail
  refine (find_any _ g A ⟨nw, t.to, t.D⟩ s n r HF.out HT1.out).mono ?_
  rintro e w2 ⟨rfl, rfl⟩
  cases r with
  | some i =>
    obtain ⟨b, x, hA, _, _⟩ := HT1.out.nonnil HF.out
    subst hA
    have hq : k = 9 ∧ t' = ⟨nw, t.to, t.D⟩ := by
      have := HR.out
      unfold issueP at this
      rw [if_pos HOK.out, HF.out, HN.out] at this
      exact ⟨(Prod.mk.inj this).1.symm, (Prod.mk.inj this).2.symm⟩
    obtain ⟨rfl, rfl⟩ := hq
    have hp : ptrI (some ⟨b, 0, none⟩) (some i) = .pointer (some ⟨b, i * 5, none⟩) := rfl
    rw [hp]
    go_wp2_with fail
    go_ret
    exact ⟨rfl, _, HT1.out, HK1.out.weaken (fun x hx => by simp_all), fun x hx => .inl hx⟩
  | none =>
    have hq : k = 0 ∧ t' = ⟨nw, t.to, t.D ++ [⟨s, n, nw, 0, 0⟩]⟩ := by
      have := HR.out
      unfold issueP at this
      rw [if_pos HOK.out, HF.out, HN.out] at this
      exact ⟨(Prod.mk.inj this).1.symm, (Prod.mk.inj this).2.symm⟩
    obtain ⟨rfl, rfl⟩ := hq
    have hp : ptrI A none = .pointer none := by cases A <;> rfl
    rw [hp]
    clear hp
    obtain ⟨m, c, hm, hb, hs, hk, hmx'⟩ := HT1.out
    have hm2 : m = t.D.length := hm
    have d1 : w1.cell? ⟨g, 1, none⟩ = some (.int .i64 nw) := hb.cell 1
    have d3 : w1.cell? ⟨g, 3, none⟩ = some (.slice A m c) := hb.cell 3
    have e3 : ∀ o : Obj, (w1.alloc o).cell? ⟨g, 3, none⟩ = some (.slice A m c) := fun o => (hb.alloc o).cell 3
    have hmm : m + 1 ≤ 1000 := by omega
    have HM := Lib.hid hm2
    have HB := Lib.hid hb
    have HS := Lib.hid hs
    have HK := Lib.hid hk
    clear hm hm2 hb hs hk hmx' hmx
    obtain ⟨i0, hi0, hz0, hz1, hz2⟩ := info_parts infoIs
    go_wp2_with fail
    go_region_law (first
      | (refine step_app1 _ rfl (.tmp 38) (.tmp 46) 101 rfl 109 i0 _ 5 40 Try.underlying101 hi0 hz0 hz1 hz2 rfl (by omega) A m c (t.D.flatMap icells) rfl (by exact HS.out.alloc _) _ _ _ rfl (by exact Blk.new _ _ _) rfl rfl (by omega) (by omega) ?_
         intro A2 c2 w3 hs3 hk3 hb3
         have HS3 := Lib.hid hs3
         have HK3 := Lib.hid hk3.undrew
         have HB3 := Lib.hid hb3
         have hb4 := (HB.out.alloc _).keepS hk3.undrew (HS.out.ne_blk HB.out (by decide))
         have f4 := hb4.frozen 3
         have d4 : w3.cell? ⟨g, 3, none⟩ = some (.slice A m c) := hb4.cell 3
         have HB4 := Lib.hid hb4
         clear hs3 hk3 hb3 hb4))
    all_goals
      have POST := Lib.hid (issue_post (s := s) (n := n) (nw := nw) HM.out hmm hgl.out HK1.out HS3.out HK3.out HB3.out HB4.out HK.out)
      clear HB3 HS3 HK3 HB4
      go_wp2_with fail
      go_ret
      exact POST.out
end Go.Proofs.Ytfkbcflgbjncdaa
