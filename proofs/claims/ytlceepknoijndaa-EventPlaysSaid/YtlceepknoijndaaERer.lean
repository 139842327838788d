/- The reference's Enable where an ID is struck. -/
import Derived.Test.YtlceepknoijndaaERrb
namespace Go.Proofs.Ytlceepknoijndaa
set_option linter.unusedVariables false
set_option linter.unusedSimpArgs false
open Go.RowKit
theorem erase_take (l : List Int) (id : Int) (h : id ∈ l) : l.erase id = l.take (l.idxOf id) ++ l.drop (l.idxOf id + 1) := by
  induction l with
  | nil => cases h
  | cons a t ih =>
    by_cases ha : a = id
    · subst ha; simp
    · have ht : id ∈ t := by rcases List.mem_cons.1 h with h | h; exact absurd h.symm ha; exact h
      have hb : (a == id) = false := by simpa using ha
      rw [List.erase_cons, List.idxOf_cons, hb]
      simp [ih ht]
theorem erase_at {l : List Int} {id : Int} {p : Nat} (h : findZ l id = (p : Int)) : p < l.length ∧ l.erase id = l.take p ++ l.drop (p + 1) := by
  unfold findZ at h
  by_cases hm : id ∈ l
  · rw [if_pos hm] at h
    have hp : l.idxOf id = p := by omega
    have hlt : p < l.length := by rw [← hp]; exact List.idxOf_lt_length_of_mem hm
    exact ⟨hlt, by rw [erase_take l id hm, hp]⟩
  · rw [if_neg hm] at h; omega
theorem nums_app (a b : List Int) : nums (a ++ b) = nums a ++ nums b := List.map_append
set_option maxRecDepth 100000 in
set_option maxHeartbeats 8000000 in
theorem ren_del (w : World) (s : St) (A : Option Addr) (n c : Nat) (O : Option Addr) (m d : Nat) (id : Int) (p : Nat) (hR : RS w s A n c O m d) (hm : m < 300) (q1 : 0 ≤ id) (q2 : id ≤ 65535) (q3 : findZ s.off id = (p : Int)) :
    Calls Try.prog 16 #[ragg s A n c O m d, .int .i64 id, .bool true] w (RAPost w (setOff s (s.off.erase id)) A n c) := by
  obtain ⟨i0, hi0, hz0, hz1, hz2⟩ := info_parts infoI
  obtain ⟨hp, he⟩ := erase_at q3
  have HER := Lib.hid he
  rw [← hR.ml] at hp
  have kw := kw2 w (.cells (rcells s A n c O m d) 42) (.cells #[.int .i64 0, .slice none 0 0, .slice none 0 0, .int .i64 0, .int .i64 0, .int .i64 0, .int .i64 0, .int .i64 0] 42)
  have R0 := Lib.hid (hR.keep0 kw)
  have KW := Lib.hid kw
  have hmd := hR.md
  have hdm := hR.dm
  have HE := Lib.hid hR.ev
  have HX := Lib.hid (And.intro hR.nl (And.intro hR.ml (And.intro hR.nc hR.cm)))
  have b1 := Lib.hid ((Blk.new w 42 (rcells s A n c O m d)).alloc (.cells #[.int .i64 0, .slice none 0 0, .slice none 0 0, .int .i64 0, .int .i64 0, .int .i64 0, .int .i64 0, .int .i64 0] 42))
  have b2 : Hid (Blk ((w.alloc (.cells (rcells s A n c O m d) 42)).alloc (.cells #[.int .i64 0, .slice none 0 0, .slice none 0 0, .int .i64 0, .int .i64 0, .int .i64 0, .int .i64 0, .int .i64 0] 42)) (w.heap.size + 1) 42 #[.int .i64 0, .slice none 0 0, .slice none 0 0, .int .i64 0, .int .i64 0, .int .i64 0, .int .i64 0, .int .i64 0]) := Lib.hid (by have := Blk.new (w.alloc (.cells (rcells s A n c O m d) 42)) 42 #[.int .i64 0, .slice none 0 0, .slice none 0 0, .int .i64 0, .int .i64 0, .int .i64 0, .int .i64 0, .int .i64 0]; simpa using this)
  obtain ⟨h0, h1, h2, h3, h4, h5, h6, h7⟩ := rcell8 b1.out
  have HF := Lib.hid q3
  obtain ⟨b, o, x, rfl, -, -⟩ := nth_of hR.of hp
  have HM := Lib.hid hR.ml
  have p0 : (0 : Int) ≤ (p : Int) := by omega
  have p1 : (p : Int) ≤ (d : Int) := by omega
  have p2 : (p : Int) + 1 ≤ (m : Int) := by omega
  have p3 : (m : Int) ≤ (d : Int) := by omega
  have p4 : (d : Int) ≤ 9223372036854775807 := by unfold maxLen at hdm; omega
  clear hR q3 kw he hdm
  go_enter Try.func16, Try.ntmps16
  go_wp2_with fail
  obtain ⟨W, hW⟩ : ∃ W, W = (w.alloc (.cells (rcells s A n c (some ⟨b, o, none⟩) m d) 42)).alloc (.cells #[.int .i64 0, .slice none 0 0, .slice none 0 0, .int .i64 0, .int .i64 0, .int .i64 0, .int .i64 0, .int .i64 0] 42) := ⟨_, rfl⟩
  rw [← hW] at R0 KW b1 b2 h0 h1 h2 h3 h4 h5 h6 h7 ⊢
  clear hW
  refine (find_any _ (some ⟨b, o, none⟩) m d s.off id (p : Int) (by omega) hmd R0.out.of HF.out).mono ?_
  rintro e w' ⟨rfl, rfl⟩
  have l0 : ∀ o2 : Obj, (w'.alloc o2).cell? ⟨w.heap.size, 2, none⟩ = some (.slice (some ⟨b, o, none⟩) m d) := fun o2 => (b1.out.alloc o2).cell 2
  have g1 : IntKind.i64.wrap (↑p + 1) = ↑p + 1 := by rw [IntKind.wrap_i64]; omega
  have g2 : (0 : Int) ≤ ↑p + 1 := by omega
  have g3 : (↑p + 1 : Int).toNat = p + 1 := by omega
  go_wp2_with fail
  obtain ⟨V1, hV1⟩ : ∃ V, V = Vw w' (some ⟨b, o, none⟩) p 1 (nums (s.off.take p)) := ⟨_, rfl⟩
  have T1 : Hid V1 := Lib.hid (by rw [hV1]; have := R0.out.of.take (k := p) (by omega); rw [← List.map_take] at this; exact this)
  have T2 : Hid (Vw w' (if d = p + 1 then some ⟨b, o, none⟩ else some ⟨b, o + (p + 1), none⟩) (m - (p + 1)) 1 (nums (s.off.drop (p + 1)))) := Lib.hid (by
    have := R0.out.of.drop (k := p + 1) (by omega)
    rw [← List.map_drop] at this
    by_cases hq : d = p + 1
    · rw [if_pos hq]
      have e0 : m - (p + 1) = 0 := by omega
      rw [e0] at this ⊢
      exact ⟨this.1, fun h => absurd h (by omega)⟩
    · rw [if_neg hq]; exact this)
  have ez : w'.drew.heap.size = w'.heap.size := rfl
  have HEZ := Lib.hid ez
  clear ez
  subst hV1
  have HPM : Hid (p + (m - (p + 1)) + 1 = m) := Lib.hid (by omega)
  obtain ⟨mm, hmm⟩ : ∃ mm, p + (m - (p + 1)) = mm := ⟨_, rfl⟩
  have HMM := Lib.hid hmm
  clear hmm
  go_region_law (first
    | (refine step_appV _ (by rfl) (.tmp 52) (.tmp 56) 39 (by rfl) 3 i0 _ 1 8 Try.underlying39 hi0 hz0 hz1 hz2 rfl (by omega) (some ⟨w'.heap.size, 0, none⟩) 0 0 [] (by rfl) (World.ownsRow_made w'.drew #[] 0 (Nat.zero_le _) (by unfold maxLen; omega) rfl) (some ⟨b, o, none⟩) p d (nums (s.off.take p)) (by rfl) (T1.out.drew.alloc _) (num_one _) (by omega) (by omega) ?_
       intro A2 c2 w2 hs3 hk3 hb3
       simp only [Nat.zero_add] at hs3 ⊢
       have S2 : Hid (Sl w2 3 1 A2 p c2 (nums (s.off.take p))) := Lib.hid (by simpa using hs3)
       have Kq : Hid (Keep w'.heap.size [] w' w2) := Lib.hid (((Keep.refl _ _ w').drew.alloc (Nat.le_refl _) _).chain (Nat.le_refl _) hk3 (fun x hx => by rcases List.mem_singleton.1 hx with rfl; exact Nat.le_refl _))
       have HA2 : Hid (∀ y, y ∈ blks A2 → w'.heap.size ≤ y) := Lib.hid (fun y hy => by
         have := HEZ.out
         rcases hb3 y hy with h | h
         · rcases List.mem_singleton.1 h with rfl; exact Nat.le_refl _
         · simp at h; omega)
       have l2 : w2.cell? ⟨w.heap.size, 2, none⟩ = some (.slice (some ⟨b, o, none⟩) m d) := (b1.out.keepS Kq.out (by simp)).cell 2
       clear hs3 hk3 hb3)
    | (refine step_appV _ (by rfl) (.tmp 57) (.tmp 62) 39 (by rfl) 3 i0 _ 1 8 Try.underlying39 hi0 hz0 hz1 hz2 rfl (by omega) A2 p c2 (nums (s.off.take p)) (by rfl) (by exact S2.out) (if d = p + 1 then some ⟨b, o, none⟩ else some ⟨b, o + (p + 1), none⟩) (m - (p + 1)) (d - (p + 1)) (nums (s.off.drop (p + 1))) (by rfl) (by exact T2.out.keep0 Kq.out) (num_one _) (by omega) (by omega) ?_
       intro A3 c3 w3 hs3 hk3 hb3
       rw [HMM.out] at hs3 ⊢
       have S3 : Hid (Sl w3 3 1 A3 mm c3 (nums (s.off.erase id))) := Lib.hid (by rw [HER.out, nums_app]; exact hs3)
       have Kr : Hid (Keep w'.heap.size [] w' w3) := Lib.hid (Kq.out.chain (Nat.le_refl _) hk3 (fun x hx => HA2.out x hx))
       have HA3 : Hid (∀ y, y ∈ blks A3 → w'.heap.size ≤ y) := Lib.hid (fun y hy => by
         rcases hb3 y hy with h | h
         · exact HA2.out y h
         · have := Kq.out.size; omega)
       have B3 := Lib.hid (b1.out.keepS Kr.out (by simp))
       have Z3 := Lib.hid (b2.out.keepS Kr.out (by simp))
       obtain ⟨k0, k1, k2, k3, k4, k5, k6, k7⟩ := rcell8 B3.out
       have f2 := B3.out.frozen 2
       clear hs3 hk3 hb3))
  all_goals
    have B4 : Hid (Blk (w3.setCell ⟨w.heap.size, 2, none⟩ (.slice A3 mm c3)) w.heap.size 42 (rcells (setOff s (s.off.erase id)) A n c A3 mm c3)) := Lib.hid (B3.out.set_ 2 (.slice A3 mm c3))
    have Z4 := Lib.hid (Z3.out.far (p := ⟨w.heap.size, 2, none⟩) (by simp) (.slice A3 mm c3))
    have K4 : Hid (Keep w3.heap.size [w.heap.size] w3 (w3.setCell ⟨w.heap.size, 2, none⟩ (.slice A3 mm c3))) := Lib.hid ((Keep.refl _ _ w3).setS (by simp))
    obtain ⟨W4, hW4⟩ : ∃ W, W = w3.setCell ⟨w.heap.size, 2, none⟩ (.slice A3 mm c3) := ⟨_, rfl⟩
    rw [← hW4] at B4 Z4 K4 ⊢
    clear hW4 k0 k1 k2 k3 k4 k5 k6 k7 f2 l2 h0 h1 h2 h3 h4 h5 h6 h7
    obtain ⟨k0, k1, k2, k3, k4, k5, k6, k7⟩ := rcell8 B4.out
    have y0 := Z4.out.frozen 0
    have y1 := Z4.out.frozen 1
    have y2 := Z4.out.frozen 2
    have y3 := Z4.out.frozen 3
    have y4 := Z4.out.frozen 4
    have y5 := Z4.out.frozen 5
    have y6 := Z4.out.frozen 6
    have y7 := Z4.out.frozen 7
    have x0 : W4.cell? ⟨w.heap.size + 1, 0, none⟩ = some (.int .i64 0) := Z4.out.cell 0
    have x1 : W4.cell? ⟨w.heap.size + 1, 1, none⟩ = some (.slice none 0 0) := Z4.out.cell 1
    have x2 : W4.cell? ⟨w.heap.size + 1, 2, none⟩ = some (.slice none 0 0) := Z4.out.cell 2
    have x3 : W4.cell? ⟨w.heap.size + 1, 3, none⟩ = some (.int .i64 0) := Z4.out.cell 3
    have x4 : W4.cell? ⟨w.heap.size + 1, 4, none⟩ = some (.int .i64 0) := Z4.out.cell 4
    have x5 : W4.cell? ⟨w.heap.size + 1, 5, none⟩ = some (.int .i64 0) := Z4.out.cell 5
    have x6 : W4.cell? ⟨w.heap.size + 1, 6, none⟩ = some (.int .i64 0) := Z4.out.cell 6
    have x7 : W4.cell? ⟨w.heap.size + 1, 7, none⟩ = some (.int .i64 0) := Z4.out.cell 7
    clear l0 g1 g2 g3
    go_wp2_with fail
    all_goals
      refine bodyPost_ret (v := .tuple #[ragg (setOff s (s.off.erase id)) A n c A3 mm c3, .int .i64 0]) (by simp [results, Try.results16, go_sem, x0, x1, x2, x3, x4, x5, x6, x7, k0, k1, k2, k3, k4, k5, k6, k7]) rfl ⟨A3, mm, c3, rfl, ?_, ?_, fun y hy => Nat.le_trans KW.out.size (HA3.out y hy)⟩
      · have KF : ∀ F, Keep W4.heap.size [w.heap.size, w.heap.size + 1] W4 F → RS F (setOff s (s.off.erase id)) A n c A3 mm c3 := fun F k => by
          have hz := KW.out.size
          have hbx := b2.out.lt
          have k2 : Keep w3.heap.size [w.heap.size, w.heap.size + 1] w3 F := (K4.out.mono (Nat.le_refl _) (fun x _ hx => by simp at hx; simp [hx])).trans (k.mono K4.out.size (by simp))
          have k1 : Keep w.heap.size [] w F := (KW.out.chain0 (Nat.le_refl _) Kr.out).chain (Nat.le_refl _) k2 (fun x hx => by simp at hx; omega)
          exact ⟨HE.out.keep0 k1, (S3.out.vw (by omega)).keepS k2 (fun y hy => by have := HA3.out y hy; simp; omega), HX.out.1, by have h1 := S3.out.length; simpa [setOff, nums] using h1.symm, HX.out.2.2.1, HX.out.2.2.2, (slcap S3.out).1, (slcap S3.out).2⟩
        apply KF
        repeat (first | with_reducible exact Keep.refl _ _ _ | with_reducible refine Keep.setS ?_ (by simp))
      · have KZ : Keep w.heap.size [] w W4 := (KW.out.chain0 (Nat.le_refl _) Kr.out).chain1 (Nat.le_refl _) K4.out (Nat.le_refl _)
        repeat (first | with_reducible exact KZ | with_reducible refine Keep.setN ?_ (by simp <;> omega))
end Go.Proofs.Ytlceepknoijndaa
