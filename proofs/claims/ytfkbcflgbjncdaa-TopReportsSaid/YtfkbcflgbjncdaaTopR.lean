/- TopReports: the walk. -/
import Derived.Test.YtfkbcflgbjncdaaTopP
namespace Go.Proofs.Ytfkbcflgbjncdaa
set_option linter.unusedVariables false
set_option linter.unusedSimpArgs false
open Go.RowKit
set_option maxHeartbeats 1000000 in
theorem has_any (w : World) (X : Option Addr) (m c : Nat) (bs : List Bool) (i : Nat) (v : Bool) (hv : (bs[i]?).getD false = v) (hmc : m ≤ c) (hcm : c ≤ maxLen) (hi : i < 1000) (hb : Vw w X m 1 (bools bs)) :
    Calls Try.prog 14 #[.slice X m c, .int .i64 (i : Int)] w fun e w' => e = .returned (.bool v) ∧ w = w' := by
  have hl : m = bs.length := by have := hb.1; simp [bools] at this; omega
  have HV := Lib.hid hv
  have HB := Lib.hid hb
  have HL := Lib.hid hl
  have h0 : (0 : Int) ≤ (i : Int) := by omega
  have hmc' : (m : Int) ≤ (c : Int) := by omega
  clear hv hb hl
  by_cases h1 : i < m
  · have h1' : (i : Int) < (m : Int) := by omega
    have hib : i < bs.length := by have := HL.out; omega
    obtain ⟨b, o, rfl, _, hc⟩ := HB.out.2 (by omega)
    have hcell : w.cell? ⟨b, o + i, none⟩ = some (.bool v) := hc i _ (by rw [List.getElem?_map, List.getElem?_eq_getElem hib]; have := HV.out; rw [List.getElem?_eq_getElem hib] at this; simp at this; simp [this])
    clear hc hib
    go_enter Try.func14, Try.ntmps14
    go_wp2_with fail
    go_ret
    exact ⟨rfl, rfl⟩
  · have h1' : (m : Int) ≤ (i : Int) := by omega
    have ev : v = false := by rw [← HV.out, List.getElem?_eq_none (by have := HL.out; omega)]; rfl
    subst ev
    go_enter Try.func14, Try.ntmps14
    go_wp2_with fail
    go_ret
    exact ⟨rfl, rfl⟩
theorem ak_valid (n : Nat) (h1 : 1 ≤ n) (h2 : n ≤ 10) (stg cod : Int) (hs : 1 ≤ stg ∧ stg ≤ 4) (hc : 0 ≤ cod ∧ cod ≤ 17) : (⟨1, (n : Int), stg, cod⟩ : Ak).valid = true := (valid_iff _).2 (by simp only; omega)
theorem dec_enc (n : Nat) (h1 : 1 ≤ n) (h2 : n ≤ 10) (stg cod : Int) (hs : 1 ≤ stg ∧ stg ≤ 4) (hc : 0 ≤ cod ∧ cod ≤ 17) : decP (enc ⟨1, (n : Int), stg, cod⟩) = (⟨1, (n : Int), stg, cod⟩, 0) ∧ Oct (enc ⟨1, (n : Int), stg, cod⟩) := by
  have e : dec (enc ⟨1, (n : Int), stg, cod⟩) = ⟨1, (n : Int), stg, cod⟩ := by
    simp only [dec, enc, List.getD_cons_zero, List.getD_cons_succ]
    congr 1
    omega
  refine ⟨?_, fun x hx => ?_⟩
  · unfold decP
    rw [if_neg (by simp [enc]), if_neg (by simp [enc]), e, ak_valid n h1 h2 stg cod hs hc]
    rfl
  · simp only [enc, List.mem_cons, List.not_mem_nil, or_false] at hx
    rcases hx with rfl | rfl | rfl | rfl | rfl <;> omega
theorem encode_ok (w : World) (a : Ak) (h : a.valid = true) : Calls Try.prog 12 #[.agg #[.int .i64 a.src, .int .i64 a.num, .int .i64 a.stg, .int .i64 a.cod]] w (EncPost w a) := encode_yes w a h
theorem decode_ok (w : World) (X : Option Addr) (c : Nat) (n : Nat) (h1 : 1 ≤ n) (h2 : n ≤ 10) (stg cod : Int) (hs : 1 ≤ stg ∧ stg ≤ 4) (hc : 0 ≤ cod ∧ cod ≤ 17) (hv : Vw w X 5 1 (octs (enc ⟨1, (n : Int), stg, cod⟩))) :
    Calls Try.prog 13 #[.slice X 5 c] w fun e w' => e = .returned (.tuple #[.agg #[.int .i64 1, .int .i64 (n : Int), .int .i64 stg, .int .i64 cod], .int .i64 0]) ∧ Keep w.heap.size [] w w' := by
  obtain ⟨e1, hO⟩ := dec_enc n h1 h2 stg cod hs hc
  have := decode_any w X 5 c _ hO (by omega) hv
  rw [e1] at this
  exact this
theorem take_ok (w : World) (g : Nat) (A : Option Addr) (t t' : Tk) (n : Int) (stg cod now k : Int) (hr : takeP t ⟨1, n, stg, cod⟩ now = (k, t')) (h : Tr w g A t) :
    Calls Try.prog 15 #[bptr g, .agg #[.int .i64 1, .int .i64 n, .int .i64 stg, .int .i64 cod], .int .i64 now] w (TPost g w A k t') := take_any w g A t t' ⟨1, n, stg, cod⟩ now k hr h
theorem make_done (w : World) : (Instr.makeSlice 29 (.int .i64 11) (.int .i64 11)).run Try.prog w = .ok (.slice (some ⟨w.heap.size, 0, none⟩) 11 11) (w.alloc (.cells (bools (List.replicate 11 false)).toArray 4)) := by kernel_rfl
set_option maxRecDepth 100000 in
set_option maxHeartbeats 16000000 in
theorem reports_any (w : World) (X : Option Addr) (n0 cX : Nat) (L0 : List Arr) (hnc : n0 ≤ cX) (hcm : cX ≤ maxLen) (hv : Arrs w X n0 L0) : Calls Try.prog 3 #[.slice X n0 cX] w (LawPost w) := by
  have HV := Lib.hid hv
  have HLn := Lib.hid hv.len
  have hncI : (n0 : Int) ≤ (cX : Int) := by omega
  have hcI : (cX : Int) ≤ 9223372036854775807 := by unfold maxLen at hcm; omega
  clear hv hcm
  by_cases hbig : 30 < n0
  · have hbI : (30 : Int) < (n0 : Int) := by omega
    go_enter Try.func3, Try.ntmps3
    go_wp2_with fail
    go_ret
    exact ⟨rfl, Keep.refl _ _ _⟩
  have hbI : (n0 : Int) ≤ 30 := by omega
  go_enter Try.func3, Try.ntmps3
  go_wp2_with fail
  refine (new_any _).mono ?_
  rintro e w1 ⟨gl, rfl, hgl, hL, hk1⟩
  have L1 := Lib.hid hL
  have K1 := Lib.hid hk1
  have HGL : Hid (w.heap.size ≤ gl) := Lib.hid (by omega)
  clear hgl hL hk1
  go_wp2_with fail
  refine (tnew_any _ 100).mono ?_
  rintro e w2 ⟨gt, rfl, hgt, hT, hk2⟩
  have hT' : Tr w2 gt none ⟨0, 100, isD 0⟩ := hT
  have P0 : Hid (∃ (A : Option Addr), Keep w.heap.size [] w w2 ∧ Led w2 gl zeroL ∧ Tr w2 gt A ⟨0, 100, isD 0⟩ ∧ ∀ y, y ∈ blks A → w.heap.size ≤ y) := Lib.hid ⟨none, K1.out.chain0 (Nat.le_refl _) hk2, L1.out.keepS hk2 (by simp), hT', by simp [blks]⟩
  have HGT : Hid (w.heap.size ≤ gt) := Lib.hid (by have := K1.out.size; omega)
  have HGT2 : Hid (w2.heap.size ≤ w2.heap.size) := Lib.hid (Nat.le_refl _)
  clear hgt hT hT' hk2 L1 K1
  go_wp2_with fail
  go_loopw [5] (fun i wr => ∃ (k j : Nat) (A : Option Addr), k = j + 1 ∧ j ≤ 10 ∧ i = .int .i64 (k : Int) ∧ Keep w.heap.size [] w wr ∧ Led wr gl zeroL ∧ Tr wr gt A ⟨0, 100, isD j⟩ ∧ ∀ y, y ∈ blks A → w.heap.size ≤ y) (fun i _ => 11 - (intOf i).toNat)
  case atStart => obtain ⟨A, h1, h2, h3, h4⟩ := P0.out; exact ⟨1, 0, A, rfl, by omega, rfl, h1, h2, h3, h4⟩
  case round =>
    clear P0 HGT2
    obtain ⟨k, j, A, hkj, hk, rfl, hkw, hL, hT, hA⟩ := hrel
    have HKJ := Lib.hid hkj
    clear hkj
    have KW := Lib.hid hkw
    have HL := Lib.hid hL
    have HT := Lib.hid hT
    have HA := Lib.hid hA
    clear hkw hL hT hA
    by_cases hlt : k ≤ 10
    · have hki : (k : Int) ≤ 10 := by omega
      have HIS : Hid (issueP ⟨0, 100, isD j⟩ 1 (k : Int) 0 = (0, ⟨0, 100, isD (j + 1)⟩)) := Lib.hid (by have := isD_issue j (by have := HKJ.out; omega); rw [HKJ.out]; exact this)
      have HLE : Hid ((isD j).length + 1 ≤ 1000) := Lib.hid (by simp [isD]; omega)
      go_wp2_with fail
      refine (issue_any _ gt A ⟨0, 100, isD j⟩ ⟨0, 100, isD (j + 1)⟩ 1 (k : Int) 0 0 HIS.out HLE.out HT.out).mono ?_
      rintro e w3 ⟨rfl, A3, hT3, hk3, hb3⟩
      have K3 : Hid (Keep w.heap.size [] w w3) := Lib.hid (KW.out.chain (Nat.le_refl _) hk3 (fun y hy => by
        rcases List.mem_cons.1 hy with rfl | hy
        · exact HGT.out
        · exact HA.out y hy))
      have L3 : Hid (Led w3 gl zeroL) := Lib.hid (by
        obtain ⟨cs, hb⟩ := HT.out.blk
        obtain ⟨n, c, xs, hs⟩ := HT.out.sl
        refine HL.out.keepS hk3 ?_
        simp only [List.mem_cons, not_or]
        exact ⟨HL.out.2.1.ne_ hb (by decide), hs.ne_blk HL.out.2.1 (by decide)⟩)
      have T3 := Lib.hid hT3
      have A3' : Hid (∀ y, y ∈ blks A3 → w.heap.size ≤ y) := Lib.hid (fun y hy => by
        have := KW.out.size
        rcases hb3 y hy with h | h
        · exact HA.out y h
        · omega)
      clear hT3 hk3 hb3
      go_wp2_with fail
      go_roundw
      case rel => exact ⟨k + 1, j + 1, A3, by rw [HKJ.out], by have := HKJ.out; omega, by go_num, K3.out, L3.out, T3.out, A3'.out⟩
      case measure => simp [intOf] <;> omega
    · obtain rfl : j = 10 := by have := HKJ.out; omega
      have hki : (10 : Int) < (k : Int) := by omega
      have hmk := make_done
      go_wp2_with fail
      have P0 : Hid (TW w (wr.alloc (.cells (bools (List.replicate 11 false)).toArray 4)) gl gt wr.heap.size A zeroL ⟨0, 100, isD 10⟩ (List.replicate 11 false)) := Lib.hid (by
        have k1 : Keep wr.heap.size [] wr (wr.alloc (.cells (bools (List.replicate 11 false)).toArray 4)) := (Keep.refl _ _ wr).alloc (Nat.le_refl _) _
        exact ⟨KW.out.chain0 (Nat.le_refl _) k1, HL.out.keepS k1 (by simp), HT.out.keep0 k1, Blk.new _ _ _, HGL.out, HGT.out, KW.out.size, HA.out⟩)
      obtain ⟨W0, hW0⟩ : ∃ W, W = wr.alloc (.cells (bools (List.replicate 11 false)).toArray 4) := ⟨_, rfl⟩
      change Code.wp _ _ _ _ (wr.alloc (.cells (bools (List.replicate 11 false)).toArray 4))
      rw [← hW0] at P0 ⊢
      obtain ⟨gd, hgd⟩ : ∃ g, wr.heap.size = g := ⟨_, rfl⟩
      rw [hgd] at P0 ⊢
      clear hW0 hgd KW HL HT HA hmk HKJ hki
      go_loopw [7] (fun i wr => ∃ (q : Nat) (A : Option Addr) (L : List Rc) (t : Tk) (dl : List Bool), q ≤ n0 ∧ i = .int .i64 (q : Int) ∧ TW w wr gl gt gd A L t dl ∧ LJ L dl ∧ Rep t.D dl) (fun i _ => n0 - (intOf i).toNat)
      case atStart => exact ⟨0, A, zeroL, _, _, Nat.zero_le _, rfl, P0.out, lj0, isD_rep⟩
      case round =>
        clear P0
        obtain ⟨q, A, L, t, dl, hq, rfl, hP, hJ, hR⟩ := hrel
        have P := Lib.hid hP
        have J := Lib.hid hJ
        have RP := Lib.hid hR
        clear hP hJ hR
        by_cases hlt : q < n0
        · have hqI : (q : Int) < (n0 : Int) := by omega
          have hl : q < L0.length := by have := HLn.out; omega
          obtain ⟨b, o, rfl, a0, a1, a2, a3⟩ := (HV.out.keep0 P.out.keep).at_ hlt (List.getElem?_eq_getElem hl)
          obtain ⟨x, hx⟩ : ∃ y, L0[q] = y := ⟨_, rfl⟩
          have hxm := HV.out.2 L0[q] (List.getElem_mem hl)
          rw [hx] at a0 a1 a2 a3 hxm
          have HXA := Lib.hid hxm.2
          have HXV : Hid (∀ F, Keep w.heap.size [] w F → Vw F x.X x.m 1 (bools x.bs)) := Lib.hid (fun F k => hxm.1.keep0 k)
          clear hx hl hxm
          obtain ⟨z, hz⟩ : ∃ z, x.num = z := ⟨_, rfl⟩
          rw [hz] at a0
          clear hz
          by_cases hz1 : z < 1
          · go_wp2_with fail
            go_ret
            exact ⟨rfl, P.out.keep.alloc P.out.keep.size _⟩
          by_cases hz2 : 10 < z
          · go_wp2_with fail
            go_ret
            exact ⟨rfl, P.out.keep.alloc P.out.keep.size _⟩
          obtain ⟨n, rfl⟩ : ∃ n : Nat, z = (n : Int) := ⟨z.toNat, by omega⟩
          have HN : Hid (1 ≤ n ∧ n ≤ 10) := Lib.hid (by omega)
          have hn1 : (1 : Int) ≤ (n : Int) := by omega
          have hn2 : (n : Int) ≤ 10 := by omega
          have hn3 : (n : Int) < 11 := by omega
          clear hz1 hz2
          go_wp2_with fail
          have k1 : Keep wr.heap.size [] wr ((wr.alloc (.cells #[.int .i64 (n : Int), .int .i64 x.svc, .int .i64 x.mode, .slice x.X x.m x.c] 31)).alloc (.cells #[.int .i64 4] 3)) := ((Keep.refl _ _ wr).alloc (Nat.le_refl _) _).alloc (by simp) _
          have P1 := Lib.hid (P.out.next k1)
          have BX1 : Hid (Blk ((wr.alloc (.cells #[.int .i64 (n : Int), .int .i64 x.svc, .int .i64 x.mode, .slice x.X x.m x.c] 31)).alloc (.cells #[.int .i64 4] 3)) wr.heap.size 31 #[.int .i64 (n : Int), .int .i64 x.svc, .int .i64 x.mode, .slice x.X x.m x.c]) := Lib.hid ((Blk.new wr _ _).alloc _)
          have SB1 : Hid (Blk ((wr.alloc (.cells #[.int .i64 (n : Int), .int .i64 x.svc, .int .i64 x.mode, .slice x.X x.m x.c] 31)).alloc (.cells #[.int .i64 4] 3)) (wr.heap.size + 1) 3 #[.int .i64 4]) := Lib.hid (by have := Blk.new (wr.alloc (.cells #[.int .i64 (n : Int), .int .i64 x.svc, .int .i64 x.mode, .slice x.X x.m x.c] 31)) 3 #[.int .i64 4]; simpa using this)
          clear k1 P
          obtain ⟨W1, hW1⟩ : ∃ W, W = (wr.alloc (.cells #[.int .i64 (n : Int), .int .i64 x.svc, .int .i64 x.mode, .slice x.X x.m x.c] 31)).alloc (.cells #[.int .i64 4] 3) := ⟨_, rfl⟩
          rw [← hW1] at P1 BX1 SB1 ⊢
          clear hW1
          obtain ⟨bs, hbs⟩ : ∃ k, wr.heap.size + 1 = k := ⟨_, rfl⟩
          rw [hbs] at SB1 ⊢
          obtain ⟨q0, hq0⟩ : ∃ k, wr.heap.size = k := ⟨_, rfl⟩
          rw [hq0] at BX1 ⊢
          clear hbs hq0 a0 a1 a2 a3
          obtain ⟨sb, hsb⟩ : ∃ b, seenL L 1 (n : Int) = b := ⟨_, rfl⟩
          have HSB := Lib.hid hsb
          clear hsb
          refine (seenl_any _ gl L 1 (n : Int) sb HSB.out P1.out.led).mono ?_
          rintro e w1s ⟨rfl, hk⟩
          have P1s := Lib.hid (P1.out.next hk)
          have BX1s := Lib.hid (BX1.out.keepS hk (by simp))
          have SB1s := Lib.hid (SB1.out.keepS hk (by simp))
          clear hk P1 BX1 SB1
          cases sb with
          | true =>
            go_wp2_with fail
            have HST : Hid (∀ j : Nat, j < 1 → ∃ y : Int, ([4] : List Int)[j]? = some y ∧ (1 ≤ y ∧ y ≤ 4) ∧ (y = 4 ∨ (dl[n]? = some true ∧ (y = 1 ∨ y = 2 ∨ y = 3)))) := Lib.hid (fun j hj => by
              have e : j = 0 := by omega
              subst e
              exact ⟨4, rfl, by decide, .inl rfl⟩)
            have KA : Hid (Keep w.heap.size [] w w1s) := Lib.hid P1s.out.keep
            have PI : Hid (∃ (A : Option Addr) (t : Tk), TW w w1s gl gt gd A L t dl ∧ Rep t.D dl ∧ Blk w1s q0 31 #[.int .i64 (n : Int), .int .i64 x.svc, .int .i64 x.mode, .slice x.X x.m x.c] ∧ Blk w1s bs 3 #[.int .i64 4]) := Lib.hid ⟨A, t, P1s.out, RP.out, BX1s.out, SB1s.out⟩
            clear P1s BX1s SB1s RP
            go_loopw [11] (fun i wr => ∃ (j : Nat) (A : Option Addr) (t : Tk), j ≤ 1 ∧ i = .int .i64 (j : Int) ∧ TW w wr gl gt gd A L t dl ∧ Rep t.D dl ∧ Blk wr q0 31 #[.int .i64 (n : Int), .int .i64 x.svc, .int .i64 x.mode, .slice x.X x.m x.c] ∧ Blk wr bs 3 #[.int .i64 4]) (fun i _ => 1 - (intOf i).toNat)
            case atStart => obtain ⟨A, t, h1, h2, h3, h4⟩ := PI.out; exact ⟨0, A, t, Nat.zero_le _, rfl, h1, h2, h3, h4⟩
            case round =>
              clear PI KA
              obtain ⟨j, A, t, hj, rfl, hP, hR, hB, hS⟩ := hrel
              have P := Lib.hid hP
              have RP := Lib.hid hR
              have BX := Lib.hid hB
              have SB := Lib.hid hS
              clear hP hR hB hS
              by_cases hlj : j < 1
              · obtain ⟨y, hy, hy2, hy3⟩ := HST.out j hlj
                have HY := Lib.hid hy2
                have HY3 := Lib.hid hy3
                have hjI : (j : Int) < 1 := by omega
                have s0 : wr.cell? ⟨bs, j, none⟩ = some (.int .i64 y) := by rw [SB.out.cell j]; have h2 : ([4] : List Int).map (Value.int .i64) = [.int .i64 4] := rfl; rw [List.getElem?_toArray, ← h2, List.getElem?_map, hy]; rfl
                have b0 : wr.cell? ⟨q0, 0, none⟩ = some (.int .i64 (n : Int)) := BX.out.cell 0
                have b3 : wr.cell? ⟨q0, 3, none⟩ = some (.slice x.X x.m x.c) := BX.out.cell 3
                clear hy hy2 hy3
                go_wp2_with fail
                have s0d : wr.drew.cell? ⟨q0, 0, none⟩ = some (.int .i64 (n : Int)) ∧ wr.drew.cell? ⟨bs, j, none⟩ = some (.int .i64 y) := ⟨b0, s0⟩
                go_region_held3 (fun w' => w'.cell? ⟨q0, 0, none⟩ = some (.int .i64 (n : Int)) ∧ w'.cell? ⟨bs, j, none⟩ = some (.int .i64 y)) (first | with_reducible exact s0d | with_reducible exact s5d)
                  (first
                    | (go_at_call 12
                       refine (encode_ok _ ⟨1, (n : Int), y, 9⟩ (by exact ak_valid n HN.out.1 HN.out.2 y 9 HY.out (by omega))).mono ?_
                       rintro e w5 ⟨A5, c5, rfl, hs, hk, hb⟩
                       have V5 : Hid (Vw w5 A5 5 1 (octs (enc ⟨1, (n : Int), y, 9⟩))) := Lib.hid (hs.vw (by omega))
                       have K5 : Hid (Keep wr.heap.size [] wr w5) := Lib.hid hk.undrew
                       have P5 := Lib.hid (P.out.next K5.out)
                       have BX5 := Lib.hid (BX.out.keepS K5.out (by simp))
                       have SB5 := Lib.hid (SB.out.keepS K5.out (by simp))
                       have s5d : w5.cell? ⟨q0, 0, none⟩ = some (.int .i64 (n : Int)) ∧ w5.cell? ⟨bs, j, none⟩ = some (.int .i64 y) := ⟨(BX5.out.cell 0), ((K5.out.cell (p := ⟨bs, j, none⟩) (SB.out.lt) (by simp)).trans s0)⟩
                       clear hs hk hb))
                clear s0d s5d b0 b3 s0 P BX SB K5
                go_wp2_with fail
                refine (decode_ok _ A5 c5 n HN.out.1 HN.out.2 y 9 HY.out (by omega) V5.out).mono ?_
                rintro e w6 ⟨rfl, hk⟩
                have P6 := Lib.hid (P5.out.next hk)
                have BX6 := Lib.hid (BX5.out.keepS hk (by simp))
                have SB6 := Lib.hid (SB5.out.keepS hk (by simp))
                clear hk P5 BX5 SB5 V5
                have k7 : Keep w6.heap.size [] w6 (w6.alloc (.cells #[.int .i64 1, .int .i64 (n : Int), .int .i64 y, .int .i64 9] 39)) := (Keep.refl _ _ w6).alloc (Nat.le_refl _) _
                have P7 := Lib.hid (P6.out.next k7)
                have BX7 := Lib.hid (BX6.out.keepS k7 (by simp))
                have SB7 := Lib.hid (SB6.out.keepS k7 (by simp))
                have AK7 := Lib.hid (Blk.new w6 39 #[.int .i64 1, .int .i64 (n : Int), .int .i64 y, .int .i64 9])
                have b3 : (w6.alloc (.cells #[.int .i64 1, .int .i64 (n : Int), .int .i64 y, .int .i64 9] 39)).cell? ⟨q0, 3, none⟩ = some (.slice x.X x.m x.c) := BX7.out.cell 3
                clear k7 P6 BX6 SB6
                go_wp2_with fail
                obtain ⟨W7, hW7⟩ : ∃ W, W = w6.alloc (.cells #[.int .i64 1, .int .i64 (n : Int), .int .i64 y, .int .i64 9] 39) := ⟨_, rfl⟩
                obtain ⟨ka, hka⟩ : ∃ k, w6.heap.size = k := ⟨_, rfl⟩
                rw [← hW7] at P7 BX7 SB7 AK7 b3 ⊢
                rw [hka] at AK7 ⊢
                clear hW7 hka
                obtain ⟨hb, hhb⟩ : ∃ b, (x.bs[j]?).getD false = b := ⟨_, rfl⟩
                have HHB := Lib.hid hhb
                clear hhb
                refine (has_any _ x.X x.m x.c x.bs j hb HHB.out HXA.out.1 HXA.out.2 (by omega) (HXV.out _ P7.out.keep)).mono ?_
                rintro e w' ⟨rfl, rfl⟩
                cases hb with
                | true =>
                  go_wp2_with fail
                  go_roundw
                  case rel => exact ⟨j + 1, A, t, by omega, by go_num, P7.out, RP.out, BX7.out, SB7.out⟩
                  case measure => simp [intOf] <;> omega
                | false =>
                  obtain ⟨⟨kk, t'⟩, ht'⟩ : ∃ r, takeP t ⟨1, (n : Int), y, 9⟩ (q : Int) = r := ⟨_, rfl⟩
                  have HTK := Lib.hid ht'
                  have RP' : Hid (Rep t'.D dl) := Lib.hid (by have := RP.out.take n HN.out.1 HN.out.2 y 9 (q : Int) HY3.out; rw [ht'] at this; exact this)
                  clear ht'
                  have a0 : W7.cell? ⟨ka, 0, none⟩ = some (.int .i64 1) := AK7.out.cell 0
                  have a1 : W7.cell? ⟨ka, 1, none⟩ = some (.int .i64 (n : Int)) := AK7.out.cell 1
                  have a2 : W7.cell? ⟨ka, 2, none⟩ = some (.int .i64 y) := AK7.out.cell 2
                  have a3 : W7.cell? ⟨ka, 3, none⟩ = some (.int .i64 9) := AK7.out.cell 3
                  go_wp2_with fail
                  refine (take_ok _ gt A t t' (n : Int) y 9 (q : Int) kk HTK.out P7.out.tr).mono ?_
                  rintro e w8 ⟨rfl, A8, hT, hk, hb⟩
                  have P8 := Lib.hid (P7.out.track hT hk hb)
                  have HFR : Hid (∀ (g : Nat) (ty : TypeId) (cs : Array Value), Blk W7 g ty cs → ty ≠ 103 → ty ≠ 109 → Blk w8 g ty cs) := Lib.hid (fun g ty cs h n1 n2 => h.keepS hk (by
                    obtain ⟨cs2, hb2⟩ := P7.out.tr.blk
                    obtain ⟨n3, c3, xs3, hs3⟩ := P7.out.tr.sl
                    simp only [List.mem_cons, not_or]
                    exact ⟨h.ne_ hb2 n1, hs3.ne_blk h (Ne.symm n2)⟩))
                  have BX8 := Lib.hid (HFR.out _ _ _ BX7.out (by decide) (by decide))
                  have SB8 := Lib.hid (HFR.out _ _ _ SB7.out (by decide) (by decide))
                  clear hT hk hb P7 BX7 SB7 AK7 a0 a1 a2 a3 b3
                  go_wp2_with fail
                  go_roundw
                  case rel => exact ⟨j + 1, A8, t', by omega, by go_num, P8.out, RP'.out, BX8.out, SB8.out⟩
                  case measure => simp [intOf] <;> omega
              · obtain rfl : j = 1 := by omega
                go_wp2_with fail
                go_roundw
                case rel => exact ⟨q + 1, A, L, t, dl, by omega, by go_num, P.out, J.out, RP.out⟩
                case measure => simp [intOf] <;> omega
          | false =>
            have b1 : w1s.cell? ⟨q0, 1, none⟩ = some (.int .i64 x.svc) := BX1s.out.cell 1
            have b2 : w1s.cell? ⟨q0, 2, none⟩ = some (.int .i64 x.mode) := BX1s.out.cell 2
            go_wp2_with fail
            obtain ⟨pb, hpb⟩ : ∃ b, permB x.svc x.mode = b := ⟨_, rfl⟩
            have HPM := Lib.hid (fun W : World => hpb ▸ permitted_any W x.svc x.mode)
            clear hpb
            refine (HPM.out _).mono ?_
            rintro e w2 ⟨rfl, hk⟩
            have P2 := Lib.hid (P1s.out.next hk)
            have BX2 := Lib.hid (BX1s.out.keepS hk (by simp))
            have SB2 := Lib.hid (SB1s.out.keepS hk (by simp))
            clear hk P1s BX1s SB1s b1 b2
            cases pb with
            | false =>
              go_wp2_with fail
              have HST : Hid (∀ j : Nat, j < 1 → ∃ y : Int, ([4] : List Int)[j]? = some y ∧ (1 ≤ y ∧ y ≤ 4) ∧ (y = 4 ∨ (dl[n]? = some true ∧ (y = 1 ∨ y = 2 ∨ y = 3)))) := Lib.hid (fun j hj => by
                have e : j = 0 := by omega
                subst e
                exact ⟨4, rfl, by decide, .inl rfl⟩)
              have KA : Hid (Keep w.heap.size [] w w2) := Lib.hid P2.out.keep
              have PI : Hid (∃ (A : Option Addr) (t : Tk), TW w w2 gl gt gd A L t dl ∧ Rep t.D dl ∧ Blk w2 q0 31 #[.int .i64 (n : Int), .int .i64 x.svc, .int .i64 x.mode, .slice x.X x.m x.c] ∧ Blk w2 bs 3 #[.int .i64 4]) := Lib.hid ⟨A, t, P2.out, RP.out, BX2.out, SB2.out⟩
              clear P2 BX2 SB2 RP
              go_loopw [11] (fun i wr => ∃ (j : Nat) (A : Option Addr) (t : Tk), j ≤ 1 ∧ i = .int .i64 (j : Int) ∧ TW w wr gl gt gd A L t dl ∧ Rep t.D dl ∧ Blk wr q0 31 #[.int .i64 (n : Int), .int .i64 x.svc, .int .i64 x.mode, .slice x.X x.m x.c] ∧ Blk wr bs 3 #[.int .i64 4]) (fun i _ => 1 - (intOf i).toNat)
              case atStart => obtain ⟨A, t, h1, h2, h3, h4⟩ := PI.out; exact ⟨0, A, t, Nat.zero_le _, rfl, h1, h2, h3, h4⟩
              case round =>
                clear PI KA
                obtain ⟨j, A, t, hj, rfl, hP, hR, hB, hS⟩ := hrel
                have P := Lib.hid hP
                have RP := Lib.hid hR
                have BX := Lib.hid hB
                have SB := Lib.hid hS
                clear hP hR hB hS
                by_cases hlj : j < 1
                · obtain ⟨y, hy, hy2, hy3⟩ := HST.out j hlj
                  have HY := Lib.hid hy2
                  have HY3 := Lib.hid hy3
                  have hjI : (j : Int) < 1 := by omega
                  have s0 : wr.cell? ⟨bs, j, none⟩ = some (.int .i64 y) := by rw [SB.out.cell j]; have h2 : ([4] : List Int).map (Value.int .i64) = [.int .i64 4] := rfl; rw [List.getElem?_toArray, ← h2, List.getElem?_map, hy]; rfl
                  have b0 : wr.cell? ⟨q0, 0, none⟩ = some (.int .i64 (n : Int)) := BX.out.cell 0
                  have b3 : wr.cell? ⟨q0, 3, none⟩ = some (.slice x.X x.m x.c) := BX.out.cell 3
                  clear hy hy2 hy3
                  go_wp2_with fail
                  have s0d : wr.drew.cell? ⟨q0, 0, none⟩ = some (.int .i64 (n : Int)) ∧ wr.drew.cell? ⟨bs, j, none⟩ = some (.int .i64 y) := ⟨b0, s0⟩
                  go_region_held3 (fun w' => w'.cell? ⟨q0, 0, none⟩ = some (.int .i64 (n : Int)) ∧ w'.cell? ⟨bs, j, none⟩ = some (.int .i64 y)) (first | with_reducible exact s0d | with_reducible exact s5d)
                    (first
                      | (go_at_call 12
                         refine (encode_ok _ ⟨1, (n : Int), y, 11⟩ (by exact ak_valid n HN.out.1 HN.out.2 y 11 HY.out (by omega))).mono ?_
                         rintro e w5 ⟨A5, c5, rfl, hs, hk, hb⟩
                         have V5 : Hid (Vw w5 A5 5 1 (octs (enc ⟨1, (n : Int), y, 11⟩))) := Lib.hid (hs.vw (by omega))
                         have K5 : Hid (Keep wr.heap.size [] wr w5) := Lib.hid hk.undrew
                         have P5 := Lib.hid (P.out.next K5.out)
                         have BX5 := Lib.hid (BX.out.keepS K5.out (by simp))
                         have SB5 := Lib.hid (SB.out.keepS K5.out (by simp))
                         have s5d : w5.cell? ⟨q0, 0, none⟩ = some (.int .i64 (n : Int)) ∧ w5.cell? ⟨bs, j, none⟩ = some (.int .i64 y) := ⟨(BX5.out.cell 0), ((K5.out.cell (p := ⟨bs, j, none⟩) (SB.out.lt) (by simp)).trans s0)⟩
                         clear hs hk hb))
                  clear s0d s5d b0 b3 s0 P BX SB K5
                  go_wp2_with fail
                  refine (decode_ok _ A5 c5 n HN.out.1 HN.out.2 y 11 HY.out (by omega) V5.out).mono ?_
                  rintro e w6 ⟨rfl, hk⟩
                  have P6 := Lib.hid (P5.out.next hk)
                  have BX6 := Lib.hid (BX5.out.keepS hk (by simp))
                  have SB6 := Lib.hid (SB5.out.keepS hk (by simp))
                  clear hk P5 BX5 SB5 V5
                  have k7 : Keep w6.heap.size [] w6 (w6.alloc (.cells #[.int .i64 1, .int .i64 (n : Int), .int .i64 y, .int .i64 11] 39)) := (Keep.refl _ _ w6).alloc (Nat.le_refl _) _
                  have P7 := Lib.hid (P6.out.next k7)
                  have BX7 := Lib.hid (BX6.out.keepS k7 (by simp))
                  have SB7 := Lib.hid (SB6.out.keepS k7 (by simp))
                  have AK7 := Lib.hid (Blk.new w6 39 #[.int .i64 1, .int .i64 (n : Int), .int .i64 y, .int .i64 11])
                  have b3 : (w6.alloc (.cells #[.int .i64 1, .int .i64 (n : Int), .int .i64 y, .int .i64 11] 39)).cell? ⟨q0, 3, none⟩ = some (.slice x.X x.m x.c) := BX7.out.cell 3
                  clear k7 P6 BX6 SB6
                  go_wp2_with fail
                  obtain ⟨W7, hW7⟩ : ∃ W, W = w6.alloc (.cells #[.int .i64 1, .int .i64 (n : Int), .int .i64 y, .int .i64 11] 39) := ⟨_, rfl⟩
                  obtain ⟨ka, hka⟩ : ∃ k, w6.heap.size = k := ⟨_, rfl⟩
                  rw [← hW7] at P7 BX7 SB7 AK7 b3 ⊢
                  rw [hka] at AK7 ⊢
                  clear hW7 hka
                  obtain ⟨hb, hhb⟩ : ∃ b, (x.bs[j]?).getD false = b := ⟨_, rfl⟩
                  have HHB := Lib.hid hhb
                  clear hhb
                  refine (has_any _ x.X x.m x.c x.bs j hb HHB.out HXA.out.1 HXA.out.2 (by omega) (HXV.out _ P7.out.keep)).mono ?_
                  rintro e w' ⟨rfl, rfl⟩
                  cases hb with
                  | true =>
                    go_wp2_with fail
                    go_roundw
                    case rel => exact ⟨j + 1, A, t, by omega, by go_num, P7.out, RP.out, BX7.out, SB7.out⟩
                    case measure => simp [intOf] <;> omega
                  | false =>
                    obtain ⟨⟨kk, t'⟩, ht'⟩ : ∃ r, takeP t ⟨1, (n : Int), y, 11⟩ (q : Int) = r := ⟨_, rfl⟩
                    have HTK := Lib.hid ht'
                    have RP' : Hid (Rep t'.D dl) := Lib.hid (by have := RP.out.take n HN.out.1 HN.out.2 y 11 (q : Int) HY3.out; rw [ht'] at this; exact this)
                    clear ht'
                    have a0 : W7.cell? ⟨ka, 0, none⟩ = some (.int .i64 1) := AK7.out.cell 0
                    have a1 : W7.cell? ⟨ka, 1, none⟩ = some (.int .i64 (n : Int)) := AK7.out.cell 1
                    have a2 : W7.cell? ⟨ka, 2, none⟩ = some (.int .i64 y) := AK7.out.cell 2
                    have a3 : W7.cell? ⟨ka, 3, none⟩ = some (.int .i64 11) := AK7.out.cell 3
                    go_wp2_with fail
                    refine (take_ok _ gt A t t' (n : Int) y 11 (q : Int) kk HTK.out P7.out.tr).mono ?_
                    rintro e w8 ⟨rfl, A8, hT, hk, hb⟩
                    have P8 := Lib.hid (P7.out.track hT hk hb)
                    have HFR : Hid (∀ (g : Nat) (ty : TypeId) (cs : Array Value), Blk W7 g ty cs → ty ≠ 103 → ty ≠ 109 → Blk w8 g ty cs) := Lib.hid (fun g ty cs h n1 n2 => h.keepS hk (by
                      obtain ⟨cs2, hb2⟩ := P7.out.tr.blk
                      obtain ⟨n3, c3, xs3, hs3⟩ := P7.out.tr.sl
                      simp only [List.mem_cons, not_or]
                      exact ⟨h.ne_ hb2 n1, hs3.ne_blk h (Ne.symm n2)⟩))
                    have BX8 := Lib.hid (HFR.out _ _ _ BX7.out (by decide) (by decide))
                    have SB8 := Lib.hid (HFR.out _ _ _ SB7.out (by decide) (by decide))
                    clear hT hk hb P7 BX7 SB7 AK7 a0 a1 a2 a3 b3
                    go_wp2_with fail
                    go_roundw
                    case rel => exact ⟨j + 1, A8, t', by omega, by go_num, P8.out, RP'.out, BX8.out, SB8.out⟩
                    case measure => simp [intOf] <;> omega
                · obtain rfl : j = 1 := by omega
                  go_wp2_with fail
                  go_roundw
                  case rel => exact ⟨q + 1, A, L, t, dl, by omega, by go_num, P.out, J.out, RP.out⟩
                  case measure => simp [intOf] <;> omega
            | true =>
              obtain ⟨hdf, L3, hmk, hj3⟩ := J.out.seen n HN.out.1 HN.out.2 HSB.out RP.out.2.1
              have HMK := Lib.hid hmk
              have J3 := Lib.hid hj3
              have HDF := Lib.hid hdf
              have HDN : Hid ((dl.set n true)[n]? = some true) := Lib.hid (by rw [List.getElem?_set, if_pos rfl, if_pos (by have := RP.out.2.1; have := HN.out; omega)])
              have RP3 := Lib.hid (RP.out.done n)
              clear hmk hj3 hdf
              have b0 : w2.cell? ⟨q0, 0, none⟩ = some (.int .i64 (n : Int)) := BX2.out.cell 0
              go_wp2_with fail
              refine (mark_any _ gl L 1 (n : Int) (L3, 0) HMK.out P2.out.led).mono ?_
              rintro e w3 ⟨rfl, hl3, hk⟩
              have P3 := Lib.hid (P2.out.mark hl3 hk)
              have BX3 := Lib.hid (BX2.out.keepS hk (by simpa using BX2.out.ne_ P2.out.led.2.1 (by decide)))
              clear hl3 hk P2 BX2 SB2 b0
              have b0 : w3.cell? ⟨q0, 0, none⟩ = some (.int .i64 (n : Int)) := BX3.out.cell 0
              have d0 : w3.cell? ⟨gd, n, none⟩ = some (.bool false) := by rw [P3.out.dn.cell n]; simp only [List.getElem?_toArray, List.getElem?_map, HDF.out]; rfl
              have df : w3.frozen? ⟨gd, n, none⟩ = false := P3.out.dn.frozen n
              have P4 := Lib.hid (P3.out.done n)
              have BX4 := Lib.hid (BX3.out.far (p := ⟨gd, n, none⟩) (by exact BX3.out.ne_ P3.out.dn (by decide)) (.bool true))
              have k5 : Keep (w3.setCell ⟨gd, n, none⟩ (.bool true)).heap.size [] (w3.setCell ⟨gd, n, none⟩ (.bool true)) ((w3.setCell ⟨gd, n, none⟩ (.bool true)).alloc (.cells #[.int .i64 1, .int .i64 2, .int .i64 3] 3)) := (Keep.refl _ _ _).alloc (Nat.le_refl _) _
              have P5 := Lib.hid (P4.out.next k5)
              have BX5 := Lib.hid (BX4.out.keepS k5 (by simp))
              have SB5 := Lib.hid (Blk.new (w3.setCell ⟨gd, n, none⟩ (.bool true)) 3 #[.int .i64 1, .int .i64 2, .int .i64 3])
              clear k5 P4 BX4
              go_wp2_with fail
              obtain ⟨W5, hW5⟩ : ∃ W, W = (w3.setCell ⟨gd, n, none⟩ (.bool true)).alloc (.cells #[.int .i64 1, .int .i64 2, .int .i64 3] 3) := ⟨_, rfl⟩
              rw [← hW5] at P5 BX5 SB5 ⊢
              clear hW5
              obtain ⟨bs2, hbs2⟩ : ∃ k, (w3.setCell ⟨gd, n, none⟩ (.bool true)).heap.size = k := ⟨_, rfl⟩
              have hbs3 : w3.heap.size = bs2 := by rw [← hbs2]; simp [World.setCell]
              rw [hbs2] at SB5
              rw [hbs3]
              clear hbs2 hbs3 b0 d0 df P3 BX3 RP
              have HST : Hid (∀ j : Nat, j < 3 → ∃ y : Int, ([1, 2, 3] : List Int)[j]? = some y ∧ (1 ≤ y ∧ y ≤ 4) ∧ (y = 4 ∨ ((dl.set n true)[n]? = some true ∧ (y = 1 ∨ y = 2 ∨ y = 3)))) := Lib.hid (fun j hj => by
                have e : j = 0 ∨ j = 1 ∨ j = 2 := by omega
                rcases e with rfl | rfl | rfl
                · exact ⟨1, rfl, by decide, .inr ⟨HDN.out, by decide⟩⟩
                · exact ⟨2, rfl, by decide, .inr ⟨HDN.out, by decide⟩⟩
                · exact ⟨3, rfl, by decide, .inr ⟨HDN.out, by decide⟩⟩)
              have KA : Hid (Keep w.heap.size [] w W5) := Lib.hid P5.out.keep
              have PI : Hid (∃ (A : Option Addr) (t : Tk), TW w W5 gl gt gd A L3 t (dl.set n true) ∧ Rep t.D (dl.set n true) ∧ Blk W5 q0 31 #[.int .i64 (n : Int), .int .i64 x.svc, .int .i64 x.mode, .slice x.X x.m x.c] ∧ Blk W5 bs2 3 #[.int .i64 1, .int .i64 2, .int .i64 3]) := Lib.hid ⟨A, t, P5.out, RP3.out, BX5.out, SB5.out⟩
              clear P5 BX5 SB5 RP3
              go_loopw [11] (fun i wr => ∃ (j : Nat) (A : Option Addr) (t : Tk), j ≤ 3 ∧ i = .int .i64 (j : Int) ∧ TW w wr gl gt gd A L3 t (dl.set n true) ∧ Rep t.D (dl.set n true) ∧ Blk wr q0 31 #[.int .i64 (n : Int), .int .i64 x.svc, .int .i64 x.mode, .slice x.X x.m x.c] ∧ Blk wr bs2 3 #[.int .i64 1, .int .i64 2, .int .i64 3]) (fun i _ => 3 - (intOf i).toNat)
              case atStart => obtain ⟨A, t, h1, h2, h3, h4⟩ := PI.out; exact ⟨0, A, t, Nat.zero_le _, rfl, h1, h2, h3, h4⟩
              case round =>
                clear PI KA
                obtain ⟨j, A, t, hj, rfl, hP, hR, hB, hS⟩ := hrel
                have P := Lib.hid hP
                have RP := Lib.hid hR
                have BX := Lib.hid hB
                have SB := Lib.hid hS
                clear hP hR hB hS
                by_cases hlj : j < 3
                · obtain ⟨y, hy, hy2, hy3⟩ := HST.out j hlj
                  have HY := Lib.hid hy2
                  have HY3 := Lib.hid hy3
                  have hjI : (j : Int) < 3 := by omega
                  have s0 : wr.cell? ⟨bs2, j, none⟩ = some (.int .i64 y) := by rw [SB.out.cell j]; have h2 : ([1, 2, 3] : List Int).map (Value.int .i64) = [.int .i64 1, .int .i64 2, .int .i64 3] := rfl; rw [List.getElem?_toArray, ← h2, List.getElem?_map, hy]; rfl
                  have b0 : wr.cell? ⟨q0, 0, none⟩ = some (.int .i64 (n : Int)) := BX.out.cell 0
                  have b3 : wr.cell? ⟨q0, 3, none⟩ = some (.slice x.X x.m x.c) := BX.out.cell 3
                  clear hy hy2 hy3
                  go_wp2_with fail
                  have s0d : wr.drew.cell? ⟨q0, 0, none⟩ = some (.int .i64 (n : Int)) ∧ wr.drew.cell? ⟨bs2, j, none⟩ = some (.int .i64 y) := ⟨b0, s0⟩
                  go_region_held3 (fun w' => w'.cell? ⟨q0, 0, none⟩ = some (.int .i64 (n : Int)) ∧ w'.cell? ⟨bs2, j, none⟩ = some (.int .i64 y)) (first | with_reducible exact s0d | with_reducible exact s5d)
                    (first
                      | (go_at_call 12
                         refine (encode_ok _ ⟨1, (n : Int), y, 0⟩ (by exact ak_valid n HN.out.1 HN.out.2 y 0 HY.out (by omega))).mono ?_
                         rintro e w5 ⟨A5, c5, rfl, hs, hk, hb⟩
                         have V5 : Hid (Vw w5 A5 5 1 (octs (enc ⟨1, (n : Int), y, 0⟩))) := Lib.hid (hs.vw (by omega))
                         have K5 : Hid (Keep wr.heap.size [] wr w5) := Lib.hid hk.undrew
                         have P5 := Lib.hid (P.out.next K5.out)
                         have BX5 := Lib.hid (BX.out.keepS K5.out (by simp))
                         have SB5 := Lib.hid (SB.out.keepS K5.out (by simp))
                         have s5d : w5.cell? ⟨q0, 0, none⟩ = some (.int .i64 (n : Int)) ∧ w5.cell? ⟨bs2, j, none⟩ = some (.int .i64 y) := ⟨(BX5.out.cell 0), ((K5.out.cell (p := ⟨bs2, j, none⟩) (SB.out.lt) (by simp)).trans s0)⟩
                         clear hs hk hb))
                  clear s0d s5d b0 b3 s0 P BX SB K5
                  go_wp2_with fail
                  refine (decode_ok _ A5 c5 n HN.out.1 HN.out.2 y 0 HY.out (by omega) V5.out).mono ?_
                  rintro e w6 ⟨rfl, hk⟩
                  have P6 := Lib.hid (P5.out.next hk)
                  have BX6 := Lib.hid (BX5.out.keepS hk (by simp))
                  have SB6 := Lib.hid (SB5.out.keepS hk (by simp))
                  clear hk P5 BX5 SB5 V5
                  have k7 : Keep w6.heap.size [] w6 (w6.alloc (.cells #[.int .i64 1, .int .i64 (n : Int), .int .i64 y, .int .i64 0] 39)) := (Keep.refl _ _ w6).alloc (Nat.le_refl _) _
                  have P7 := Lib.hid (P6.out.next k7)
                  have BX7 := Lib.hid (BX6.out.keepS k7 (by simp))
                  have SB7 := Lib.hid (SB6.out.keepS k7 (by simp))
                  have AK7 := Lib.hid (Blk.new w6 39 #[.int .i64 1, .int .i64 (n : Int), .int .i64 y, .int .i64 0])
                  have b3 : (w6.alloc (.cells #[.int .i64 1, .int .i64 (n : Int), .int .i64 y, .int .i64 0] 39)).cell? ⟨q0, 3, none⟩ = some (.slice x.X x.m x.c) := BX7.out.cell 3
                  clear k7 P6 BX6 SB6
                  go_wp2_with fail
                  obtain ⟨W7, hW7⟩ : ∃ W, W = w6.alloc (.cells #[.int .i64 1, .int .i64 (n : Int), .int .i64 y, .int .i64 0] 39) := ⟨_, rfl⟩
                  obtain ⟨ka, hka⟩ : ∃ k, w6.heap.size = k := ⟨_, rfl⟩
                  rw [← hW7] at P7 BX7 SB7 AK7 b3 ⊢
                  rw [hka] at AK7 ⊢
                  clear hW7 hka
                  obtain ⟨hb, hhb⟩ : ∃ b, (x.bs[j]?).getD false = b := ⟨_, rfl⟩
                  have HHB := Lib.hid hhb
                  clear hhb
                  refine (has_any _ x.X x.m x.c x.bs j hb HHB.out HXA.out.1 HXA.out.2 (by omega) (HXV.out _ P7.out.keep)).mono ?_
                  rintro e w' ⟨rfl, rfl⟩
                  cases hb with
                  | true =>
                    go_wp2_with fail
                    go_roundw
                    case rel => exact ⟨j + 1, A, t, by omega, by go_num, P7.out, RP.out, BX7.out, SB7.out⟩
                    case measure => simp [intOf] <;> omega
                  | false =>
                    obtain ⟨⟨kk, t'⟩, ht'⟩ : ∃ r, takeP t ⟨1, (n : Int), y, 0⟩ (q : Int) = r := ⟨_, rfl⟩
                    have HTK := Lib.hid ht'
                    have RP' : Hid (Rep t'.D (dl.set n true)) := Lib.hid (by have := RP.out.take n HN.out.1 HN.out.2 y 0 (q : Int) HY3.out; rw [ht'] at this; exact this)
                    clear ht'
                    have a0 : W7.cell? ⟨ka, 0, none⟩ = some (.int .i64 1) := AK7.out.cell 0
                    have a1 : W7.cell? ⟨ka, 1, none⟩ = some (.int .i64 (n : Int)) := AK7.out.cell 1
                    have a2 : W7.cell? ⟨ka, 2, none⟩ = some (.int .i64 y) := AK7.out.cell 2
                    have a3 : W7.cell? ⟨ka, 3, none⟩ = some (.int .i64 0) := AK7.out.cell 3
                    go_wp2_with fail
                    refine (take_ok _ gt A t t' (n : Int) y 0 (q : Int) kk HTK.out P7.out.tr).mono ?_
                    rintro e w8 ⟨rfl, A8, hT, hk, hb⟩
                    have P8 := Lib.hid (P7.out.track hT hk hb)
                    have HFR : Hid (∀ (g : Nat) (ty : TypeId) (cs : Array Value), Blk W7 g ty cs → ty ≠ 103 → ty ≠ 109 → Blk w8 g ty cs) := Lib.hid (fun g ty cs h n1 n2 => h.keepS hk (by
                      obtain ⟨cs2, hb2⟩ := P7.out.tr.blk
                      obtain ⟨n3, c3, xs3, hs3⟩ := P7.out.tr.sl
                      simp only [List.mem_cons, not_or]
                      exact ⟨h.ne_ hb2 n1, hs3.ne_blk h (Ne.symm n2)⟩))
                    have BX8 := Lib.hid (HFR.out _ _ _ BX7.out (by decide) (by decide))
                    have SB8 := Lib.hid (HFR.out _ _ _ SB7.out (by decide) (by decide))
                    clear hT hk hb P7 BX7 SB7 AK7 a0 a1 a2 a3 b3
                    go_wp2_with fail
                    go_roundw
                    case rel => exact ⟨j + 1, A8, t', by omega, by go_num, P8.out, RP'.out, BX8.out, SB8.out⟩
                    case measure => simp [intOf] <;> omega
                · obtain rfl : j = 3 := by omega
                  go_wp2_with fail
                  go_roundw
                  case rel => exact ⟨q + 1, A, L3, t, (dl.set n true), by omega, by go_num, P.out, J3.out, RP.out⟩
                  case measure => simp [intOf] <;> omega
        · obtain rfl : q = n0 := by omega
          go_wp2_with fail
          go_loop [16] (fun i => ∃ k : Nat, 1 ≤ k ∧ k ≤ 11 ∧ i = .int .i64 (k : Int)) (fun i => 11 - (intOf i).toNat)
          case atStart => exact ⟨1, by omega, by omega, rfl⟩
          case round =>
            obtain ⟨k, hk1, hk2, rfl⟩ := hrel
            by_cases hlk : k ≤ 10
            · have hki : (k : Int) ≤ 10 := by omega
              have hki2 : (k : Int) < 11 := by omega
              have hst := RP.out.stage k hk1 hlk
              obtain ⟨v, hv⟩ : ∃ v, stageP t 1 (k : Int) = v := ⟨_, rfl⟩
              rw [hv] at hst
              have HSV := Lib.hid hv
              clear hv
              have done : v = 0 ∨ v = 4 ∨ (wr.cell? ⟨gd, k, none⟩ = some (.bool true) ∧ (v = 1 ∨ v = 2 ∨ v = 3)) := by
                rcases hst with h | h | ⟨h1, h2⟩
                · exact .inl h
                · exact .inr (.inl h)
                · refine .inr (.inr ⟨?_, h2⟩)
                  rw [P.out.dn.cell k]
                  simp only [List.getElem?_toArray, List.getElem?_map, h1]
                  rfl
              clear hst
              rcases done with rfl | rfl | ⟨d0, rfl | rfl | rfl⟩
              all_goals
                go_wp2_with fail
                refine (stage_any _ gt A t 1 (k : Int) _ HSV.out P.out.tr).mono ?_
                rintro e w' ⟨rfl, rfl⟩
                go_wp2_with fail
                go_round
                case rel => exact ⟨k + 1, by omega, by omega, by go_num⟩
                case measure => simp [intOf] <;> omega
            · have hki : (10 : Int) < (k : Int) := by omega
              obtain ⟨L', hm⟩ := J.out.two
              have HM := Lib.hid hm
              clear hm
              go_wp2_with fail
              refine (mark_any _ gl L 2 1 (L', 0) HM.out P.out.led).mono ?_
              rintro e w3 ⟨rfl, hl3, hk⟩
              have P3 := Lib.hid (P.out.mark hl3 hk)
              clear hl3 hk
              go_wp2_with fail
              obtain ⟨v, hv⟩ : ∃ v, openP t.D = v := ⟨_, rfl⟩
              have HOV := Lib.hid hv
              have hv10 : (v : Int) ≤ 10 := by have := RP.out.open_; omega
              clear hv
              refine (open_any _ gt A t v HOV.out P3.out.tr).mono ?_
              rintro e w4 ⟨rfl, hk⟩
              have K4 := Lib.hid (P3.out.keep.chain0 (Nat.le_refl _) hk)
              clear hk
              go_wp2_with fail
              go_ret
              exact ⟨rfl, K4.out⟩
end Go.Proofs.Ytfkbcflgbjncdaa
