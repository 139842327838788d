/- The law BucketBounds: its walk. -/
import Derived.Test.YtppmbigmpilggaaNone
import Derived.Test.YtppmbigmpilggaaBPlain
import Derived.Test.YtppmbigmpilggaaSl
namespace Go.Proofs.Ytppmbigmpilggaa
set_option linter.unusedVariables false
set_option linter.unusedSimpArgs false
open Go.RowKit

theorem info3 : (Try.prog.info? 3).map (fun i => (i.zero, i.size, i.bytes)) = some (some (.int .i64 0), 1, 8) := by kernel_rfl
abbrev ints (l : List Int) : List Value := l.map (Value.int .i64)
theorem clampP_id (n : Int) (h0 : 0 ≤ n) (h : n ≤ 2147483648) : clampP n = n := clampP_mid n h0 h

theorem mul_bd {a d x y : Int} (h0 : 0 ≤ a) (h1 : a ≤ x) (h2 : 0 ≤ d) (h3 : d ≤ y) : 0 ≤ a * d ∧ a * d ≤ x * y :=
  ⟨Int.mul_nonneg h0 h2, Int.mul_le_mul h1 h3 h2 (by omega)⟩
theorem u16_bd (t : Int) : 0 ≤ IntKind.u16.wrap t ∧ IntKind.u16.wrap t ≤ 65535 := by
  rw [IntKind.wrap_u16]
  omega
structure BRel (w : World) (g : Nat) (r0 s0 : Int) (k : Nat) (v8 v9 v10 : Value) (wr : World) : Prop where
  keep : Keep w.heap.size [] w wr
  st : ∃ (b : Bu) (T N : List Int) (A B : Option Addr) (m c d : Nat), v8 = .slice A m c ∧ v9 = .slice B m d ∧ v10 = .int .i64 b.t ∧ BInv b T N ∧ b.r = r0 ∧ b.s = s0 ∧ b.t ≤ 65535 * (k : Int) ∧ m ≤ k ∧ T.length = m ∧ N.length = m ∧
    Blk wr g 47 (bcells b) ∧ Sl wr 3 1 A m c (ints T) ∧ Sl wr 3 1 B m d (ints N) ∧ (∀ x, x ∈ blks A → w.heap.size ≤ x ∧ x ∉ blks B) ∧ (∀ x, x ∈ blks B → w.heap.size ≤ x)

theorem brel_start {w w0 : World} {g n : Nat} {r s : Int} (b : Bu) (hb : Blk w0 g 47 (bcells b)) (he : b = ⟨r, s, s, 0⟩) (K0 : Keep w.heap.size [] w w0) (cs : Array Value) (hcs : cs.size = n) (hn : n ≤ maxLen) (hi : BInv b [] []) :
    BRel w g r s 0 (.slice (some ⟨w0.heap.size, 0, none⟩) 0 n) (.slice (some ⟨w0.heap.size + 1, 0, none⟩) 0 n) (.int .i64 0) ((w0.alloc (.cells cs 3)).alloc (.cells cs 3)).drew ∧
    BRel w g r s 0 (.slice (some ⟨w0.heap.size + 1, 0, none⟩) 0 n) (.slice (some ⟨w0.heap.size, 0, none⟩) 0 n) (.int .i64 0) ((w0.alloc (.cells cs 3)).alloc (.cells cs 3)).drew := by
  have hk : Keep w.heap.size [] w ((w0.alloc (.cells cs 3)).alloc (.cells cs 3)).drew := ((K0.alloc K0.size _).alloc (by have := K0.size; simp; omega) _).drew
  have hB : Blk ((w0.alloc (.cells cs 3)).alloc (.cells cs 3)).drew g 47 (bcells b) := (hb.alloc _).alloc _
  have h1 : Sl ((w0.alloc (.cells cs 3)).alloc (.cells cs 3)).drew 3 1 (some ⟨w0.heap.size, 0, none⟩) 0 n [] :=
    Sl.alloc (World.ownsRow_made w0 cs n (Nat.zero_le _) hn (by omega)) _
  have h2 : Sl ((w0.alloc (.cells cs 3)).alloc (.cells cs 3)).drew 3 1 (some ⟨w0.heap.size + 1, 0, none⟩) 0 n [] := by
    have := World.ownsRow_made (base := 0) (size := 1) (e := 3) (w0.alloc (.cells cs 3)) cs n (Nat.zero_le _) hn (by omega)
    have h3 : ((w0.alloc (.cells cs 3)).alloc (.cells cs 3)).ownsRow 0 3 1 (.slice (some ⟨w0.heap.size + 1, 0, none⟩) 0 n) 0 [] := by simpa using this
    exact h3
  have hz := K0.size
  subst he
  exact ⟨⟨hk, _, [], [], _, _, 0, n, n, rfl, rfl, rfl, hi, rfl, rfl, by simp, by simp, rfl, rfl, hB, h1, h2, by simp [blks]; omega, by simp [blks]; omega⟩,
    ⟨hk, _, [], [], _, _, 0, n, n, rfl, rfl, rfl, hi, rfl, rfl, by simp, by simp, rfl, rfl, hB, h2, h1, by simp [blks]; omega, by simp [blks]; omega⟩⟩

theorem bounds_round {w w2 w3 w4 : World} {g k mm : Nat} {r0 s0 n1 now : Int} {b' : Bu} {T N : List Int} {A B A2 B2 : Option Addr} {c d c2 d2 : Nat} {o1 o2 : Obj}
    (hg : w.heap.size ≤ g) (HK2 : Keep w.heap.size [] w w2) (HB2 : Blk w2 g 47 (bcells b')) (HI : BInv b' (T ++ [now]) (N ++ [n1])) (ht : b'.t = now) (hr : b'.r = r0) (hs : b'.s = s0) (hT : T.length = mm) (hN : N.length = mm)
    (hb : now ≤ 65535 * ((k + 1 : Nat) : Int)) (hm : mm ≤ k)
    (S1 : Sl w2 3 1 A mm c (ints T)) (S2 : Sl w2 3 1 B mm d (ints N)) (HD : (∀ x, x ∈ blks A → w.heap.size ≤ x ∧ x ∉ blks B) ∧ (∀ x, x ∈ blks B → w.heap.size ≤ x))
    (hs3 : Sl w3 3 1 A2 (mm + 1) c2 (ints T ++ [.int .i64 now])) (hk3 : Keep (w2.alloc o1).heap.size (blks A) (w2.alloc o1) w3) (hb3 : ∀ g, g ∈ blks A2 → g ∈ blks A ∨ g = (w2.alloc o1).heap.size)
    (hs4 : Sl w4 3 1 B2 (mm + 1) d2 (ints N ++ [.int .i64 n1])) (hk4 : Keep (w3.alloc o2).heap.size (blks B) (w3.alloc o2) w4) (hb4 : ∀ g, g ∈ blks B2 → g ∈ blks B ∨ g = (w3.alloc o2).heap.size) :
    BRel w g r0 s0 (k + 1) (.slice A2 (mm + 1) c2) (.slice B2 (mm + 1) d2) (.int .i64 now) w4 := by
  have z2 := HK2.size
  have z3 : w2.heap.size + 1 ≤ w3.heap.size := by have := hk3.size; simpa using this
  have B3 : Blk w3 g 47 (bcells b') := (HB2.alloc o1).keepS hk3 (S1.ne_blk HB2 (by decide))
  have B4 : Blk w4 g 47 (bcells b') := (B3.alloc o2).keepS hk4 (S2.ne_blk HB2 (by decide))
  have K3 : Keep w.heap.size [] w w3 := (HK2.alloc HK2.size o1).chain (Nat.le_refl _) hk3 (fun x hx => (HD.1 x hx).1)
  have K4 : Keep w.heap.size [] w w4 := (K3.alloc K3.size o2).chain (Nat.le_refl _) hk4 HD.2
  have hA2 : ∀ x, x ∈ blks A2 → w.heap.size ≤ x ∧ x ∉ blks B ∧ x < w3.heap.size := fun x hx => by
    refine ⟨?_, ?_, hs3.blk hx⟩
    · rcases hb3 x hx with h | h
      · exact (HD.1 x h).1
      · simp at h; omega
    · rcases hb3 x hx with h | h
      · exact (HD.1 x h).2
      · intro h'
        have := S2.blk h'
        simp at h; omega
  have S4 : Sl w4 3 1 A2 (mm + 1) c2 (ints T ++ [.int .i64 now]) := (hs3.alloc o2).keepS hk4 (fun x hx => (hA2 x hx).2.1)
  refine ⟨K4, b', T ++ [now], N ++ [n1], A2, B2, mm + 1, c2, d2, rfl, rfl, by rw [ht], HI, hr, hs, by rw [ht]; exact hb, by omega, by simp [hT], by simp [hN], B4, by simpa using S4, by simpa using hs4, fun x hx => ⟨(hA2 x hx).1, fun h' => ?_⟩, fun x hx => ?_⟩
  · rcases hb4 x h' with h | h
    · exact (hA2 x hx).2.1 h
    · have := (hA2 x hx).2.2
      simp at h; omega
  · rcases hb4 x hx with h | h
    · exact HD.2 x h
    · simp at h; omega

set_option maxHeartbeats 2000000 in
theorem bounds_any (w : World) (r s : Int) (A : Option Addr) (n c : Nat) (hr : 0 ≤ r ∧ r ≤ 4294967295) (hs : 0 ≤ s ∧ s ≤ 4294967295) (hA : StepsAt w w.heap.size A n) :
    Calls Try.prog 4 #[.int .u32 r, .int .u32 s, .slice A n c] w (LawPost w) := by
  have hn := hA.1
  obtain ⟨i0, hi0, hz0, hz1, hz2⟩ := info_parts info3
  obtain ⟨r1, r2⟩ := hr
  obtain ⟨s1, s2⟩ := hs
  have hcr : Hid (newB (r % 100000) (s % 1000000) = ⟨r % 100000, s % 1000000, s % 1000000, 0⟩) := by
    unfold Hid newB; rw [clampP_id _ (by omega) (by omega), clampP_id _ (by omega) (by omega)]
  by_cases hlt : 60 < n
  · have hl : (60 : Int) < (n : Int) := by omega
    clear hA
    go_enter Try.func4, Try.ntmps4
    go_wp2_with fail
    refine (new_any _ (r % 100000) (s % 1000000)).mono ?_
    rintro e w0 ⟨g, rfl, hg, hb', hk'⟩
    have K0 := Lib.hid hk'
    clear hb' hk' hg
    go_wp2_with fail
    refine (lives_any _).mono ?_
    rintro e w2 ⟨rfl, hk'⟩
    have K2 := Lib.hid hk'
    clear hk'
    go_wp2_with fail
    go_ret
    exact ⟨rfl, K0.out.chain0 (Nat.le_refl _) K2.out⟩
  · have hl : (n : Int) ≤ 60 := by omega
    go_enter Try.func4, Try.ntmps4
    go_wp2_with fail
    refine (new_any _ (r % 100000) (s % 1000000)).mono ?_
    rintro e w0 ⟨g, rfl, hg, hb', hk'⟩
    have K0 := Lib.hid hk'
    have HB0 := Lib.hid hb'
    clear hb' hk'
    go_wp2_with fail
    have hmk : ∀ W : World, (Instr.makeSlice 36 (.int .i64 0) (.int .i64 (n : Int))).run Try.prog W = .ok (.slice (some ⟨W.heap.size, 0, none⟩) 0 n) (W.alloc (.cells (madeCells #[.int .i64 0] n) 3)) := fun W => by
      have := run_make (P := Try.prog) W 36 3 i0 (.int .i64 0) Try.underlying36 hi0 hz0 .i64 .i64 0 (n : Int) (by omega) (by omega) (by rw [hz2]; omega) (by omega)
      simpa [hz1, Value.cells] using this
    go_region
    all_goals go_wp2_with fail
    all_goals
      go_loopw [8, 9, 10, 11] (fun v8 v9 v10 i wr => ∃ k : Nat, k ≤ n ∧ i = .int .i64 k ∧ BRel w g (r % 100000) (s % 1000000) k v8 v9 v10 wr) (fun _ _ _ i _ => n - (intOf i).toNat)
    case atStart => exact ⟨0, Nat.zero_le _, rfl, (brel_start (w := w) (w0 := w0) (g := g) (n := n) _ HB0.out hcr.out K0.out (madeCells #[.int .i64 0] n) (by simp [madeCells]) (by unfold maxLen; omega) (binv_new _ _)).1⟩
    case atStart => exact ⟨0, Nat.zero_le _, rfl, (brel_start (w := w) (w0 := w0) (g := g) (n := n) _ HB0.out hcr.out K0.out (madeCells #[.int .i64 0] n) (by simp [madeCells]) (by unfold maxLen; omega) (binv_new _ _)).2⟩
    all_goals
      obtain ⟨k, hkn, rfl, hk0, b, T, N, A1, B1, mm, c1', d1', rfl, rfl, rfl, hbi, hbr, hbs, hbt, hTk, hTl, hNl, hblk, hs1, hs2, hd1, hd2⟩ := hrel
      have HL := Lib.hid (And.intro hTl hNl)
      have HK := Lib.hid hk0
      have HBI := Lib.hid hbi
      have HBRS := Lib.hid (And.intro hbr hbs)
      have HB := Lib.hid hblk
      have HS1 := Lib.hid hs1
      have HS2 := Lib.hid hs2
      have HD := Lib.hid (And.intro hd1 hd2)
      have ht0 := hbi.inv.t0
      have hr0 := hbi.inv.r0
      clear hTl hNl hk0 hbi hbr hbs hblk hs1 hs2 hd1 hd2 HB0 K0 hcr
      by_cases hlt : k < n
      · obtain ⟨bl, off, rfl, hbl, hcs⟩ := hA.2 (by omega)
        obtain ⟨kk, m, t, q0, q1, c0, c1, c2⟩ := hcs k hlt
        have e1 : wr.cell? ⟨bl, off + k * 3 + 1, none⟩ = some (.int .i64 m) := (HK.out.cell (p := ⟨bl, off + k * 3 + 1, none⟩) hbl (by simp)).trans c1
        have e2 : wr.cell? ⟨bl, off + k * 3 + 2, none⟩ = some (.int .i64 t) := (HK.out.cell (p := ⟨bl, off + k * 3 + 2, none⟩) hbl (by simp)).trans c2
        clear c0 c1 c2 hcs hA
        have hu := u16_bd t
        obtain ⟨hu0, hu1⟩ := hu
        obtain ⟨n1, hn1⟩ : ∃ n1 : Int, m % 4294967296 % 1000001 = n1 := ⟨_, rfl⟩
        have hn1' : 0 ≤ n1 ∧ n1 ≤ 1000000 := by omega
        have HN1 := Lib.hid hn1
        have HN1' := Lib.hid hn1'
        clear hn1 hn1'
        cases htk : b.takes n1 (b.t + IntKind.u16.wrap t) with
        | false =>
          have HT := Lib.hid htk
          have HI2 := Lib.hid (binv_skip HBI.out n1 (b.t + IntKind.u16.wrap t) (by omega) (by omega) htk)
          clear htk
          go_wp2_with fail
          rw [HN1.out]
          refine (take_v _ g b HBI.out.inv n1 _ false HT.out HB.out).mono ?_
          rintro e w2 ⟨rfl, hb2, hk2⟩
          have HB2 := Lib.hid hb2
          have HK2 : Hid (Keep w.heap.size [] w w2) := HK.out.chain1 (Nat.le_refl _) hk2 hg
          have HS12 := Lib.hid (HS1.out.keepS hk2 (fun x hx => by simp; rintro rfl; exact HS1.out.ne_blk HB.out (by decide) hx))
          have HS22 := Lib.hid (HS2.out.keepS hk2 (fun x hx => by simp; rintro rfl; exact HS2.out.ne_blk HB.out (by decide) hx))
          have hnow : (b.take n1 (b.t + IntKind.u16.wrap t)).t = b.t + IntKind.u16.wrap t := HI2.out.2
          have HR : Hid (BRel w g (r % 100000) (s % 1000000) (k + 1) (.slice A1 mm c1') (.slice B1 mm d1') (.int .i64 (b.t + IntKind.u16.wrap t)) w2) :=
            ⟨HK2.out, _, T, N, A1, B1, mm, c1', d1', rfl, rfl, by rw [hnow], HI2.out.1, by rw [take_r]; exact HBRS.out.1, by rw [take_s]; exact HBRS.out.2, by rw [hnow]; omega, by omega, HL.out.1, HL.out.2, HB2.out, HS12.out, HS22.out, HD.out.1, HD.out.2⟩
          clear hb2 hk2 hnow HB2 HK2 HS12 HS22 HI2 HT HK HB HS1 HS2
          go_wp2_with fail
          go_roundw
          case rel => exact ⟨k + 1, by omega, by go_num, HR.out⟩
          case measure => simp [intOf]; omega
        | true =>
          have HT := Lib.hid htk
          have HI2 := Lib.hid (binv_take HBI.out n1 (b.t + IntKind.u16.wrap t) (by omega) (by omega) HN1'.out htk)
          clear htk
          go_wp2_with fail
          rw [HN1.out]
          refine (take_v _ g b HBI.out.inv n1 _ true HT.out HB.out).mono ?_
          rintro e w2 ⟨rfl, hb2, hk2⟩
          have HB2 := Lib.hid hb2
          have HK2 : Hid (Keep w.heap.size [] w w2) := HK.out.chain1 (Nat.le_refl _) hk2 hg
          have HS12 := Lib.hid (HS1.out.keepS hk2 (fun x hx => by simp; rintro rfl; exact HS1.out.ne_blk HB.out (by decide) hx))
          have HS22 := Lib.hid (HS2.out.keepS hk2 (fun x hx => by simp; rintro rfl; exact HS2.out.ne_blk HB.out (by decide) hx))
          clear hb2 hk2 HT HK HB HS1 HS2
          go_wp2_with (first
            | (at_builtin
               refine wpList_app1 _ rfl (.tmp 68) (.tmp 70) 36 rfl 3 i0 _ 1 8 Try.underlying36 hi0 hz0 hz1 hz2 rfl (by omega) A1 mm c1' (ints T) rfl (HS12.out.alloc _) _ _ _ rfl (Blk.new _ _ _) rfl rfl (by omega) (by omega) ?_
               intro A2 c2' w3 hs3 hk3 hb3
               have HS3 := Lib.hid hs3
               have HK3 := Lib.hid hk3
               have HB3 := Lib.hid hb3
               have HS23 := Lib.hid ((HS22.out.alloc _).keepS hk3 (fun x hx h' => (HD.out.1 x h').2 hx))
               clear hs3 hk3 hb3)
            | (at_builtin
               refine wpList_app1 _ rfl (.tmp 72) (.tmp 74) 36 rfl 3 i0 _ 1 8 Try.underlying36 hi0 hz0 hz1 hz2 rfl (by omega) B1 mm d1' (ints N) rfl (HS23.out.alloc _) _ _ _ rfl (Blk.new _ _ _) rfl rfl (by omega) (by omega) ?_
               intro B2 d2' w4 hs4 hk4 hb4
               have HR : Hid (BRel w g (r % 100000) (s % 1000000) (k + 1) (.slice A2 (mm + 1) c2') (.slice B2 (mm + 1) d2') (.int .i64 (b.t + IntKind.u16.wrap t)) w4) :=
                 bounds_round hg HK2.out HB2.out HI2.out.1 HI2.out.2 (by rw [take_r]; exact HBRS.out.1) (by rw [take_s]; exact HBRS.out.2) HL.out.1 HL.out.2 (by omega) hTk HS12.out HS22.out HD.out HS3.out HK3.out HB3.out hs4 hk4 hb4
               clear hs4 hk4 hb4 HS3 HK3 HB3 HS23))
          go_roundw
          case rel => exact ⟨k + 1, by omega, by go_num, HR.out⟩
          case measure => simp [intOf]; omega
      · clear hA
        go_wp2_with fail
        go_loopw [13] (fun i wq => ∃ ki : Nat, ki ≤ mm ∧ i = .int .i64 ki ∧ ∃ q, wq = wr.drewN q) (fun i _ => mm - (intOf i).toNat)
        case atStart => exact ⟨0, Nat.zero_le _, rfl, 0, rfl⟩
        case round =>
          obtain ⟨ki, hki, rfl, q, rfl⟩ := hrel
          by_cases hlt2 : ki < mm
          · go_wp2_with fail
            go_loopw [14, 15] (fun sm kq wq => ∃ kj : Nat, ki ≤ kj ∧ kj ≤ mm ∧ kq = .int .i64 kj ∧ sm = .int .i64 (seg N ki kj) ∧ ∃ q, wq = wr.drewN q) (fun _ kq _ => mm - (intOf kq).toNat)
            case atStart => exact ⟨ki, Nat.le_refl _, by omega, rfl, by rw [seg_self], q, rfl⟩
            case round =>
              obtain ⟨kj, hij, hkj, rfl, rfl, q2, rfl⟩ := hrel
              by_cases hlt3 : kj < mm
              · obtain ⟨ga, rfl, hga, hca⟩ := HS1.out.cell (j := kj) (by omega)
                obtain ⟨ga', hga', _, hca'⟩ := HS1.out.cell (j := ki) (by omega)
                obtain ⟨gb, rfl, hgb, hcb⟩ := HS2.out.cell (j := kj) (by omega)
                obtain rfl : ga' = ga := by injection hga' with h; injection h with h; exact h.symm
                obtain ⟨tj, htj⟩ : ∃ tj, T[kj]? = some tj := ⟨T[kj]'(by rw [HL.out.1]; exact hlt3), List.getElem?_eq_getElem _⟩
                obtain ⟨ti, hti⟩ : ∃ ti, T[ki]? = some ti := ⟨T[ki]'(by rw [HL.out.1]; exact hlt2), List.getElem?_eq_getElem _⟩
                obtain ⟨nj, hnj⟩ : ∃ nj, N[kj]? = some nj := ⟨N[kj]'(by rw [HL.out.2]; exact hlt3), List.getElem?_eq_getElem _⟩
                have e1 : wr.cell? ⟨ga', kj, none⟩ = some (.int .i64 tj) := by rw [hca, List.getElem?_map, htj]; rfl
                have e2 : wr.cell? ⟨ga', ki, none⟩ = some (.int .i64 ti) := by rw [hca', List.getElem?_map, hti]; rfl
                have e3 : wr.cell? ⟨gb, kj, none⟩ = some (.int .i64 nj) := by rw [hcb, List.getElem?_map, hnj]; rfl
                have hbd := seg_bd N HBI.out.nn ki kj hij (by rw [HL.out.2]; exact hkj)
                have hnn := HBI.out.nn nj (List.mem_of_getElem? hnj)
                have htt := HBI.out.tt tj (List.mem_of_getElem? htj)
                have htt' := HBI.out.tt ti (List.mem_of_getElem? hti)
                have hgood := HBI.out.good ki kj ti tj hij hti htj
                have hss := seg_succ N ki kj nj hij hnj
                rw [HBRS.out.1, HBRS.out.2, hss] at hgood
                have hdd : ti ≤ tj := HBI.out.mono ki kj ti tj hij hti htj
                have hmul : 0 ≤ (r % 100000) * (tj - ti) ∧ (r % 100000) * (tj - ti) ≤ 100000 * 4000000 := mul_bd (by omega) (by omega) (by omega) (by omega)
                obtain ⟨hmul0, hmul1⟩ := hmul
                have HSS := Lib.hid hss
                clear hca hca' hcb hti htj hnj hga hgb hga' hss
                go_wp2_with fail
                go_quiet (fail)
                go_wp2_with fail
                go_roundw
                case rel => exact ⟨kj + 1, by omega, by omega, by go_num, by rw [HSS.out], _, rfl⟩
                case measure => simp [intOf]; omega
              · go_wp2_with fail
                go_roundw
                case rel => exact ⟨ki + 1, by omega, by go_num, _, rfl⟩
                case measure => simp [intOf]; omega
          · go_wp2_with fail
            refine (lives_any _).mono ?_
            rintro e w7 ⟨rfl, hk'⟩
            have K7 := Lib.hid hk'
            clear hk'
            go_wp2_with fail
            go_ret
            exact ⟨rfl, HK.out.chain0 (Nat.le_refl _) K7.out.undrewN⟩
end Go.Proofs.Ytppmbigmpilggaa
