/- The reference's Enable where an ID is added. -/
import Derived.Test.YtlceepknoijndaaERen
namespace Go.Proofs.Ytlceepknoijndaa
set_option linter.unusedVariables false
set_option linter.unusedSimpArgs false
open Go.RowKit
theorem infoI : (Try.prog.info? 3).map (fun i => (i.zero, i.size, i.bytes)) = some (some (.int .i64 0), 1, 8) := by kernel_rfl
theorem num_one (l : List Int) : ∀ u ∈ nums l, u.oneCell' = true := by
  intro u hu
  obtain ⟨x, _, rfl⟩ := List.mem_map.1 hu
  rfl
theorem slcap {w : World} {e : TypeId} {size n c : Nat} {A : Option Addr} {xs : List Value} (h : Sl w e size A n c xs) : n ≤ c ∧ c ≤ maxLen := by
  rcases h.form with ⟨_, rfl, rfl⟩ | ⟨g, _, _, h1, h2⟩
  · exact ⟨Nat.le_refl _, Nat.zero_le _⟩
  · exact ⟨h1, h2⟩
def RAPost (w : World) (s : St) (A : Option Addr) (n c : Nat) (e : Ending) (w' : World) : Prop := ∃ O m d, e = .returned (.tuple #[ragg s A n c O m d, .int .i64 0]) ∧ RS w' s A n c O m d ∧ Keep w.heap.size [] w w' ∧ ∀ y, y ∈ blks O → w.heap.size ≤ y
set_option maxRecDepth 100000 in
set_option maxHeartbeats 4000000 in
theorem ren_add (w : World) (s : St) (A : Option Addr) (n c : Nat) (O : Option Addr) (m d : Nat) (id : Int) (hR : RS w s A n c O m d) (hm : m < 256) (q1 : 0 ≤ id) (q2 : id ≤ 65535) (q3 : findZ s.off id = -1) :
    Calls Try.prog 16 #[ragg s A n c O m d, .int .i64 id, .bool false] w (RAPost w (setOff s (s.off ++ [id])) A n c) := by
  obtain ⟨i0, hi0, hz0, hz1, hz2⟩ := info_parts infoI
  have kw := kw2 w (.cells (rcells s A n c O m d) 42) (.cells #[.int .i64 0, .slice none 0 0, .slice none 0 0, .int .i64 0, .int .i64 0, .int .i64 0, .int .i64 0, .int .i64 0] 42)
  have R0 := Lib.hid (hR.keep0 kw)
  have KW := Lib.hid kw
  have hmd := hR.md
  have HE := Lib.hid hR.ev
  have HX := Lib.hid (And.intro hR.nl (And.intro hR.ml (And.intro hR.nc hR.cm)))
  have b1 := Lib.hid ((Blk.new w 42 (rcells s A n c O m d)).alloc (.cells #[.int .i64 0, .slice none 0 0, .slice none 0 0, .int .i64 0, .int .i64 0, .int .i64 0, .int .i64 0, .int .i64 0] 42))
  have b2 : Hid (Blk ((w.alloc (.cells (rcells s A n c O m d) 42)).alloc (.cells #[.int .i64 0, .slice none 0 0, .slice none 0 0, .int .i64 0, .int .i64 0, .int .i64 0, .int .i64 0, .int .i64 0] 42)) (w.heap.size + 1) 42 #[.int .i64 0, .slice none 0 0, .slice none 0 0, .int .i64 0, .int .i64 0, .int .i64 0, .int .i64 0, .int .i64 0]) := Lib.hid (by have := Blk.new (w.alloc (.cells (rcells s A n c O m d) 42)) 42 #[.int .i64 0, .slice none 0 0, .slice none 0 0, .int .i64 0, .int .i64 0, .int .i64 0, .int .i64 0, .int .i64 0]; simpa using this)
  obtain ⟨h0, h1, h2, h3, h4, h5, h6, h7⟩ := rcell8 b1.out
  have HF := Lib.hid q3
  have hmI : (m : Int) < 256 := by omega
  clear hR q3 kw
  go_enter Try.func16, Try.ntmps16
  go_wp2_with fail
  obtain ⟨W, hW⟩ : ∃ W, W = (w.alloc (.cells (rcells s A n c O m d) 42)).alloc (.cells #[.int .i64 0, .slice none 0 0, .slice none 0 0, .int .i64 0, .int .i64 0, .int .i64 0, .int .i64 0, .int .i64 0] 42) := ⟨_, rfl⟩
  rw [← hW] at R0 KW b1 b2 h0 h1 h2 h3 h4 h5 h6 h7 ⊢
  clear hW
  refine (find_any _ O m d s.off id (-1) (by omega) hmd R0.out.of HF.out).mono ?_
  rintro e w' ⟨rfl, rfl⟩
  have e2 : ∀ o : Obj, (w'.alloc o).cell? ⟨w.heap.size, 2, none⟩ = some (.slice O m d) := fun o => (b1.out.alloc o).cell 2
  go_wp2_with (first
    | (at_builtin
       refine wpList_appV _ rfl (.tmp 39) (.tmp 41) 39 rfl 3 i0 _ 1 8 Try.underlying39 hi0 hz0 hz1 hz2 rfl (by omega) (some ⟨w'.heap.size, 0, none⟩) 0 0 [] rfl (World.ownsRow_made w' #[] 0 (Nat.zero_le _) (by unfold maxLen; omega) rfl) O m d (nums s.off) rfl (R0.out.of.alloc _) (num_one _) (by omega) (by omega) ?_
       intro A2 c2 w2 hs3 hk3 hb3
       have S2 : Hid (Sl w2 3 1 A2 m c2 (nums s.off)) := Lib.hid (by simpa using hs3)
       have Kq : Hid (Keep w'.heap.size [] w' w2) := Lib.hid (((Keep.refl _ _ w').alloc (Nat.le_refl _) _).chain (Nat.le_refl _) hk3 (fun x hx => by simp [blks] at hx; omega))
       have HA2 : Hid (∀ y, y ∈ blks A2 → w'.heap.size ≤ y) := Lib.hid (fun y hy => by
         rcases hb3 y hy with h | h
         · simp [blks] at h; omega
         · simp at h; omega)
       clear hs3 hk3 hb3)
    | (at_builtin
       refine wpList_app1 _ rfl (.tmp 42) (.tmp 44) 39 rfl 3 i0 _ 1 8 Try.underlying39 hi0 hz0 hz1 hz2 rfl (by omega) A2 m c2 (nums s.off) rfl (by exact S2.out.alloc _) _ _ _ rfl (by exact Blk.new _ _ _) rfl rfl (by omega) (by omega) ?_
       intro A3 c3 w3 hs3 hk3 hb3
       have S3 : Hid (Sl w3 3 1 A3 (m + 1) c3 (nums (s.off ++ [id]))) := Lib.hid (by simpa [nums] using hs3)
       have Kr : Hid (Keep w'.heap.size [] w' w3) := Lib.hid (((Kq.out.alloc Kq.out.size _)).chain (Nat.le_refl _) hk3 (fun x hx => HA2.out x hx))
       have HA3 : Hid (∀ y, y ∈ blks A3 → w'.heap.size ≤ y) := Lib.hid (fun y hy => by
         rcases hb3 y hy with h | h
         · exact HA2.out y h
         · have := Kq.out.size; simp at h; omega)
       have B3 := Lib.hid (b1.out.keepS Kr.out (by simp))
       have Z3 := Lib.hid (b2.out.keepS Kr.out (by simp))
       obtain ⟨k0, k1, k2, k3, k4, k5, k6, k7⟩ := rcell8 B3.out
       have f2 := B3.out.frozen 2
       have y0 := Z3.out.frozen 0
       have y1 := Z3.out.frozen 1
       have y2 := Z3.out.frozen 2
       have y3 := Z3.out.frozen 3
       have y4 := Z3.out.frozen 4
       have y5 := Z3.out.frozen 5
       have y6 := Z3.out.frozen 6
       have y7 := Z3.out.frozen 7
       have x0 : w3.cell? ⟨w.heap.size + 1, 0, none⟩ = some (.int .i64 0) := Z3.out.cell 0
       have x1 : w3.cell? ⟨w.heap.size + 1, 1, none⟩ = some (.slice none 0 0) := Z3.out.cell 1
       have x2 : w3.cell? ⟨w.heap.size + 1, 2, none⟩ = some (.slice none 0 0) := Z3.out.cell 2
       have x3 : w3.cell? ⟨w.heap.size + 1, 3, none⟩ = some (.int .i64 0) := Z3.out.cell 3
       have x4 : w3.cell? ⟨w.heap.size + 1, 4, none⟩ = some (.int .i64 0) := Z3.out.cell 4
       have x5 : w3.cell? ⟨w.heap.size + 1, 5, none⟩ = some (.int .i64 0) := Z3.out.cell 5
       have x6 : w3.cell? ⟨w.heap.size + 1, 6, none⟩ = some (.int .i64 0) := Z3.out.cell 6
       have x7 : w3.cell? ⟨w.heap.size + 1, 7, none⟩ = some (.int .i64 0) := Z3.out.cell 7
       clear hs3 hk3 hb3))
  refine bodyPost_ret (v := .tuple #[ragg (setOff s (s.off ++ [id])) A n c A3 (m + 1) c3, .int .i64 0]) (by simp [results, Try.results16, go_sem, setOff, x0, x1, x2, x3, x4, x5, x6, x7, k0, k1, k2, k3, k4, k5, k6, k7]) rfl ⟨A3, m + 1, c3, rfl, ?_, ?_, fun y hy => Nat.le_trans KW.out.size (HA3.out y hy)⟩
  · have KF : ∀ F, Keep w3.heap.size [w.heap.size, w.heap.size + 1] w3 F → RS F (setOff s (s.off ++ [id])) A n c A3 (m + 1) c3 := fun F k => by
      have hz := KW.out.size
      have hbx := b2.out.lt
      have k1 : Keep w.heap.size [] w F := (KW.out.chain0 (Nat.le_refl _) Kr.out).chain (Nat.le_refl _) k (fun x hx => by simp at hx; omega)
      exact ⟨HE.out.keep0 k1, (S3.out.vw (by omega)).keepS k (fun y hy => by have := HA3.out y hy; simp; omega), HX.out.1, by rw [HX.out.2.1]; simp [setOff], HX.out.2.2.1, HX.out.2.2.2, (slcap S3.out).1, (slcap S3.out).2⟩
    apply KF
    repeat (first | with_reducible exact Keep.refl _ _ _ | with_reducible refine Keep.setS ?_ (by simp))
  · have KZ : Keep w.heap.size [] w w3 := KW.out.chain0 (Nat.le_refl _) Kr.out
    repeat (first | with_reducible exact KZ | with_reducible refine Keep.setN ?_ (by simp <;> omega))
end Go.Proofs.Ytlceepknoijndaa
