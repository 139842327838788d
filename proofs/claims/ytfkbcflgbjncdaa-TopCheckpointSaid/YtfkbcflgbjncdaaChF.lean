/- The checkpoint: Decode of what Encode gives. -/
import Derived.Test.YtfkbcflgbjncdaaChE
import Derived.Test.YtfkbcflgbjncdaaRg
namespace Go.Proofs.Ytfkbcflgbjncdaa
set_option linter.unusedVariables false
set_option linter.unusedSimpArgs false
open Go.RowKit
def cs8 (b m t : Int) (s3 s6 : Value) (x : Int) : Array Value := #[.int .i64 b, .int .i64 m, .int .i64 t, s3, .slice none 0 0, .slice none 0 0, s6, .int .i64 x]
/-- on the way: the reader g, the checkpoint's block b; A5 the ledger's image, A the ids so far -/
structure DS (w W : World) (g b : Nat) (X : Option Addr) (M : List Int) (bo mo ti : Int) (A5 : Option Addr) (n5 c5 : Nat) (img : List Int) (A : Option Addr) (n d : Nat) (fs : List Fi) (x : Int) : Prop where
  keep : Keep w.heap.size [] w W
  rd : Rd W g X M
  hg : w.heap.size ≤ g
  box : Blk W b TC (cs8 bo mo ti (.slice A5 n5 c5) (.slice A n d) x)
  hb : w.heap.size ≤ b
  bg : b ≠ g
  bX : b ∉ blks X
  vl : Sl W 5 1 A5 n5 c5 (octs img)
  hl : ∀ y, y ∈ blks A5 → w.heap.size ≤ y ∧ y ≠ g ∧ y ≠ b
  sl : Sl W TF 2 A n d (fs.flatMap fcells)
  ha : ∀ y, y ∈ blks A → w.heap.size ≤ y ∧ y ≠ g ∧ y ≠ b ∧ y ∉ blks X ∧ y ∉ blks A5
section
variable {w W W' : World} {g b : Nat} {X X' A5 A : Option Addr} {M M' img : List Int} {bo mo ti x v : Int} {n5 c5 n d k : Nat} {fs : List Fi}
theorem Rd.blkX (h : Rd W g X M) : ∀ y, y ∈ blks X → y < W.heap.size ∨ M = [] := by
  intro y hy
  obtain ⟨m, c, hm, _, _, _, hv, _, _⟩ := h
  rcases Nat.eq_zero_or_pos m with h0 | h0
  · exact .inr (List.eq_nil_of_length_eq_zero (by omega))
  · obtain ⟨b, o, rfl, hb, _⟩ := hv.2 h0
    rcases List.mem_singleton.1 hy with rfl
    exact .inl hb
theorem DS.other (h : DS w W g b X M bo mo ti A5 n5 c5 img A n d fs x) (k : Keep W.heap.size [] W W') : DS w W' g b X M bo mo ti A5 n5 c5 img A n d fs x :=
  ⟨h.keep.chain0 (Nat.le_refl _) k, h.rd.keepS k (by simp) (by simp), h.hg, h.box.keepS k (by simp), h.hb, h.bg, h.bX, h.vl.keep0 k, h.hl, h.sl.keep0 k, h.ha⟩
theorem DS.read (h : DS w W g b X M bo mo ti A5 n5 c5 img A n d fs x) (hr : Rd W' g X' M') (k : Keep W.heap.size [g] W W') (hx : blks X' = blks X) : DS w W' g b X' M' bo mo ti A5 n5 c5 img A n d fs x :=
  ⟨h.keep.chain1 (Nat.le_refl _) k h.hg, hr, h.hg, h.box.keepS k (by simpa using h.bg), h.hb, h.bg, by rw [hx]; exact h.bX, h.vl.keepS k (fun y hy => by simpa using (h.hl y hy).2.1), h.hl, h.sl.keepS k (fun y hy => by simpa using (h.ha y hy).2.1), by rw [hx]; exact h.ha⟩
theorem DS.set (h : DS w W g b X M bo mo ti A5 n5 c5 img A n d fs x) (i : Nat) (u : Value) {x' : Int} (hc : (cs8 bo mo ti (.slice A5 n5 c5) (.slice A n d) x).setIfInBounds i u = cs8 bo mo ti (.slice A5 n5 c5) (.slice A n d) x') :
    DS w (W.setCell ⟨b, i, none⟩ u) g b X M bo mo ti A5 n5 c5 img A n d fs x' := by
  have k : Keep W.heap.size [b] W (W.setCell ⟨b, i, none⟩ u) := (Keep.refl _ _ _).set1
  refine ⟨h.keep.setN h.hb, h.rd.keepS k (by simpa using Ne.symm h.bg) (fun y hy hm => by simp at hm; subst hm; exact h.bX hy), h.hg, ?_, h.hb, h.bg, h.bX, h.vl.keepS k (fun y hy => by simpa using (h.hl y hy).2.2), h.hl, h.sl.keepS k (fun y hy => by simpa using (h.ha y hy).2.2.1), h.ha⟩
  rw [← hc]
  exact h.box.set_ i u
/-- an id is appended and laid -/
theorem DS.add {V : World} {A' : Option Addr} {d' : Nat} {y : Fi} (h : DS w V g b X M bo mo ti A5 n5 c5 img A n d fs x) (hXl : ∀ z, z ∈ blks X → z < V.heap.size) (hn : n ≤ 1000) (hs : Sl W TF 2 A' (n + 1) d' (fs.flatMap fcells ++ fcells y)) (hk : Keep V.heap.size (blks A) V W) (hb : ∀ z, z ∈ blks A' → z ∈ blks A ∨ z = V.heap.size) :
    DS w (W.setCell ⟨b, 6, none⟩ (.slice A' (n + 1) d')) g b X M bo mo ti A5 n5 c5 img A' (n + 1) d' (fs ++ [y]) x := by
  have hbl := h.box.lt
  have hgl : g < V.heap.size := by obtain ⟨_, _, _, _, _, h4, _⟩ := h.rd; exact h4.lt
  have h5 : ∀ z, z ∈ blks A5 → z < V.heap.size := fun z hz => h.vl.blk hz
  have hs0 := h.keep.size
  have hA' : ∀ z, z ∈ blks A' → w.heap.size ≤ z ∧ z ≠ g ∧ z ≠ b ∧ z ∉ blks X ∧ z ∉ blks A5 := fun z hz => by
    rcases hb z hz with h' | h'
    · exact h.ha z h'
    · exact ⟨by omega, by omega, by omega, fun hm => by have := hXl z hm; omega, fun hm => by have := h5 z hm; omega⟩
  have e : (fs ++ [y]).flatMap fcells = fs.flatMap fcells ++ fcells y := by simp
  have k1 : Keep W.heap.size [b] W (W.setCell ⟨b, 6, none⟩ (.slice A' (n + 1) d')) := (Keep.refl _ _ _).set1
  have kw : Keep w.heap.size [] w W := h.keep.trans (hk.mono hs0 (fun z hz hm => absurd (h.ha z hm).1 (by omega)))
  refine ⟨kw.setN h.hb, (h.rd.keepS hk (fun hm => (h.ha g hm).2.1 rfl) (fun z hz hm => (h.ha z hm).2.2.2.1 hz)).keepS k1 (by simpa using Ne.symm h.bg) (fun z hz hm => by simp at hm; subst hm; exact h.bX hz), h.hg, ?_, h.hb, h.bg, h.bX, (h.vl.keepS hk (fun z hz hm => (h.ha z hm).2.2.2.2 hz)).keepS k1 (fun z hz => by simpa using (h.hl z hz).2.2), h.hl, ?_, hA'⟩
  · exact ((h.box.keepS hk (fun hm => (h.ha b hm).2.2.1 rfl)).set_ 6 _)
  · rw [e]
    exact hs.keepS k1 (fun z hz => by simpa using (hA' z hz).2.2.1)
def DPost (w W : World) (g b : Nat) (X : Option Addr) (M : List Int) (bo mo ti : Int) (A5 : Option Addr) (n5 c5 : Nat) (img : List Int) (A : Option Addr) (n d : Nat) (fs : List Fi) (x : Int) (v : Value) (e : Ending) (W' : World) : Prop :=
  e = .returned v ∧ ∃ X', DS w W' g b X' M bo mo ti A5 n5 c5 img A n d fs x ∧ Keep W.heap.size [g] W W' ∧ blks X' = blks X
theorem di (h : DS w W g b X (vI v ++ M) bo mo ti A5 n5 c5 img A n d fs x) (h0 : -9223372036854775808 ≤ v) (h1 : v ≤ 9223372036854775807) (hO : Oct M) : Calls Try.prog 68 #[bptr g] W (DPost w W g b X M bo mo ti A5 n5 c5 img A n d fs x (.int .i64 v)) := by
  refine (ri_v v M h0 h1 hO h.rd).mono ?_
  rintro e W' ⟨rfl, X', h1, h2, h3⟩
  exact ⟨rfl, X', h.read h1 h2 h3, h2, h3⟩
theorem dc (h : DS w W g b X (vI v ++ M) bo mo ti A5 n5 c5 img A n d fs x) (most : Int) (h0 : 0 ≤ v) (h1 : v ≤ most) (h2 : v ≤ 9223372036854775807) (hO : Oct M) : Calls Try.prog 71 #[bptr g, .int .i64 most] W (DPost w W g b X M bo mo ti A5 n5 c5 img A n d fs x (.int .i64 v)) := by
  refine (rc_v v most M h0 h1 h2 hO h.rd).mono ?_
  rintro e W' ⟨rfl, X', h1, h2, h3⟩
  exact ⟨rfl, X', h.read h1 h2 h3, h2, h3⟩
theorem du (h : DS w W g b X (be v k ++ M) bo mo ti A5 n5 c5 img A n d fs x) (z : Int) (hz : z = (k : Int)) (h1 : 1 ≤ k) (h8 : k ≤ 8) (h0 : 0 ≤ v) (hn : v < 256 ^ k) (hO : Oct M) : Calls Try.prog 53 #[bptr g, .int .i64 z] W (DPost w W g b X M bo mo ti A5 n5 c5 img A n d fs x (.int .u64 v)) := by
  refine (ru_v v k z hz M h1 h8 h0 hn hO h.rd).mono ?_
  rintro e W' ⟨rfl, X', h1, h2, h3⟩
  exact ⟨rfl, X', h.read h1 h2 h3, h2, h3⟩
end
theorem CIn.keepS {w w' : World} {c : Ck} {l : CL} {S : List Nat} (h : CIn w c l) (k : Keep w.heap.size S w w') (hX : ∀ y, y ∈ blks l.X → y ∉ S) (hY : ∀ y, y ∈ blks l.Y → y ∉ S) : CIn w' c l := ⟨h.vl.keepS k hX, h.vd.keepS k hY, h.cm, h.cd, h.l16, h.lok, h.lrt, h.dn⟩
theorem infoFi : (Try.prog.info? TF).map (fun i => (i.zero, i.size, i.bytes)) = some (some (.agg #[.int .i64 0, .int .i64 0]), 2, 16) := by kernel_rfl
theorem fE_oct : ∀ (L : List Fi), Oct (L.flatMap fE)
  | [] => fun x hx => by cases hx
  | f :: L => by
    rw [List.flatMap_cons]
    exact (((be_octC f.s 1).app (be_octC f.n 2))).app (fE_oct L)
theorem i64_in (n : Int) (h0 : -9223372036854775808 ≤ n) (h1 : n < 9223372036854775808) : IntKind.i64.wrap n = n := by rw [IntKind.wrap_i64]; omega
def DecPost (w : World) (c : Ck) (e : Ending) (w' : World) : Prop :=
  ∃ l : CL, e = .returned (.tuple #[.agg (ccs c l), .int .i64 0]) ∧ CIn w' c l ∧ Keep w.heap.size [] w w'
set_option maxRecDepth 100000 in
set_option maxHeartbeats 16000000 in
theorem cdec_yes (w : World) (X0 : Option Addr) (m0 k0 : Nat) (c : Ck) (hv : Vw w X0 m0 1 (octs (encC c))) (ok : ckOk c = true) (h16 : c.led.length = 16) (hlok : ∀ r ∈ c.led, RcOk r) (hlrt : ∀ r ∈ c.led, rightB r = true) (hd : c.done.length ≤ 256) :
    Calls Try.prog 26 #[.slice X0 m0 k0] w (DecPost w c) := by
  have CB := Lib.hid (ckOk_bd ok)
  have HH := headC_len CB.out h16 hd
  obtain ⟨⟨b0, b1⟩, ⟨mo0, mo1⟩, ⟨t0, t1⟩, ⟨x0, x1⟩, hfs⟩ := CB.out
  have lx := vI_len (n := c.next) (by omega) (by omega)
  have hml : m0 = (encC c).length := by have := hv.1; simp [octs] at this; omega
  have henl : (encC c).length ≤ 1200 := by unfold encC; rw [List.length_append, List.length_append, fE_len]; omega
  have hm1 : Hid (m0 ≤ 1200) := Lib.hid (by omega)
  -- what remains, step by step
  obtain ⟨R7, hR7⟩ : ∃ R, R = vI c.next := ⟨_, rfl⟩
  obtain ⟨R6, hR6⟩ : ∃ R, R = c.done.flatMap fE ++ R7 := ⟨_, rfl⟩
  obtain ⟨R5, hR5⟩ : ∃ R, R = vI (c.done.length : Int) ++ R6 := ⟨_, rfl⟩
  obtain ⟨R4, hR4⟩ : ∃ R, R = vI 0 ++ R5 := ⟨_, rfl⟩
  obtain ⟨R3, hR3⟩ : ∃ R, R = vB [0] ++ R4 := ⟨_, rfl⟩
  obtain ⟨R2, hR2⟩ : ∃ R, R = vB (imageL c.led) ++ R3 := ⟨_, rfl⟩
  obtain ⟨R1, hR1⟩ : ∃ R, R = vI c.time ++ R2 := ⟨_, rfl⟩
  obtain ⟨R0, hR0⟩ : ∃ R, R = be c.mode 1 ++ R1 := ⟨_, rfl⟩
  have henc : Hid (encC c = vI c.boots ++ R0) := Lib.hid (by rw [hR0, hR1, hR2, hR3, hR4, hR5, hR6, hR7]; unfold encC headC; simp only [List.append_assoc])
  have o7 : Oct R7 := by rw [hR7]; exact vI_oct _
  have o6 : Oct R6 := by rw [hR6]; exact (fE_oct _).app o7
  have o5 : Oct R5 := by rw [hR5]; exact (vI_oct _).app o6
  have o4 : Oct R4 := by rw [hR4]; exact (vI_oct _).app o5
  have oz : Oct [0] := fun x hx => by rcases List.mem_singleton.1 hx with rfl; omega
  have o3 : Oct R3 := by rw [hR3]; exact ((vI_oct _).app oz).app o4
  have o2 : Oct R2 := by rw [hR2]; exact ((vI_oct _).app (imageL_oct _)).app o3
  have o1 : Oct R1 := by rw [hR1]; exact (vI_oct _).app o2
  have o0 : Oct R0 := by rw [hR0]; exact (be_octC _ _).app o1
  have l3 : R3.length ≤ 1200 := by have h := congrArg List.length henc.out; rw [hR0, hR1, hR2] at h; simp only [List.length_append] at h; omega
  have l4 : R4.length ≤ 1200 := by have h := congrArg List.length hR3; simp only [List.length_append] at h; omega
  have il : (imageL c.led).length = 160 := by rw [imageL_len, h16]
  have H0 := Lib.hid hR0
  have H1 := Lib.hid hR1
  have H2 := Lib.hid hR2
  have H3 := Lib.hid hR3
  have H4 := Lib.hid hR4
  have H5 := Lib.hid hR5
  have H6 := Lib.hid hR6
  have H7 := Lib.hid hR7
  have O0 := Lib.hid o0
  have O1 := Lib.hid o1
  have O2 := Lib.hid o2
  have O3 := Lib.hid o3
  have O4 := Lib.hid o4
  have O5 := Lib.hid o5
  have O6 := Lib.hid o6
  have O7 := Lib.hid o7
  have OZ := Lib.hid oz
  have IL := Lib.hid il
  have HML := Lib.hid hml
  have HOK := Lib.hid ok
  have H16 := Lib.hid h16
  have HLO := Lib.hid hlok
  have HLR := Lib.hid hlrt
  have HFS := Lib.hid hfs
  have HV := Lib.hid hv
  have em := i64_in c.mode (by omega) (by omega)
  clear hR0 hR1 hR2 hR3 hR4 hR5 hR6 hR7 o0 o1 o2 o3 o4 o5 o6 o7 oz il hml ok h16 hlok hlrt hfs hv henl
  have k1 : Keep w.heap.size [] w (w.alloc (.cells (cs8 0 0 0 (.slice none 0 0) (.slice none 0 0) 0) TC)) := (Keep.refl _ _ w).alloc (Nat.le_refl _) _
  have hb := Blk.new w TC (cs8 0 0 0 (.slice none 0 0) (.slice none 0 0) 0)
  obtain ⟨W0, hW0⟩ : ∃ W0, W0 = w.alloc (.cells (cs8 0 0 0 (.slice none 0 0) (.slice none 0 0) 0) TC) := ⟨_, rfl⟩
  rw [← hW0] at hb k1
  obtain ⟨r, hrr⟩ : ∃ r, r = w.heap.size := ⟨_, rfl⟩
  rw [← hrr] at hb
  have hr0 : w.heap.size ≤ r := by omega
  have K0 := Lib.hid k1
  have BR0 := Lib.hid hb
  clear k1 hb
  go_enter Try.func26, Try.ntmps26
  go_upto_region 1 with fail
  change Code.wp _ _ _ _ (w.alloc (.cells (cs8 0 0 0 (.slice none 0 0) (.slice none 0 0) 0) TC))
  rw [← hW0, ← hrr]
  clear hW0 hrr
  go_wp2_with fail
  refine (rnew_all _ X0 m0 k0 (encC c) (by have := hm1.out; omega) (HV.out.keep0 K0.out)).mono ?_
  rintro e W1 ⟨g, X1, rfl, hr, hk, hg, hA, hAl⟩
  have RD1 := Lib.hid hr
  have K1 := Lib.hid (K0.out.chain0 (Nat.le_refl _) hk)
  have HG : Hid (W0.heap.size ≤ g) := Lib.hid hg
  have HX1 : Hid (∀ x, x ∈ blks X1 → W0.heap.size ≤ x) := Lib.hid hA
  have HXL : Hid (∀ x, x ∈ blks X1 → x < W1.heap.size) := Lib.hid hAl
  have KW1 := Lib.hid hk
  have hgw : w.heap.size ≤ g := Nat.le_trans K0.out.size hg
  clear hr hk hg hA hAl
  go_wp2_with fail
  refine (ri_v c.boots R0 (by omega) (by omega) O0.out (by rw [← henc.out]; exact RD1.out)).mono ?_
  rintro e W2 ⟨rfl, X2, hr, hk, hx⟩
  have RD2 := Lib.hid hr
  have K2 := Lib.hid hk
  have XX2 := Lib.hid hx
  clear hr hk hx
  go_wp2_with fail
  refine (ru_v c.mode 1 1 rfl R1 (by omega) (by omega) (by omega) (by omega) O1.out (by rw [← H0.out]; exact RD2.out)).mono ?_
  rintro e W3 ⟨rfl, X3, hr, hk, hx⟩
  have RD3 := Lib.hid hr
  have K3 := Lib.hid (K2.out.trans (hk.mono K2.out.size (fun _ _ h => h)))
  have XX3 := Lib.hid (hx.trans XX2.out)
  clear hr hk hx
  go_wp2_with fail
  refine (ri_v c.time R2 (by omega) (by omega) O2.out (by rw [← H1.out]; exact RD3.out)).mono ?_
  rintro e W4 ⟨rfl, X4, hr, hk, hx⟩
  have RD4 := Lib.hid hr
  have K4 := Lib.hid (K3.out.trans (hk.mono K3.out.size (fun _ _ h => h)))
  have XX4 := Lib.hid (hx.trans XX3.out)
  clear hr hk hx
  go_wp2_with fail
  refine (rb_v (imageL c.led) R3 1048576 (by rw [IL.out]; omega) (by rw [IL.out]; omega) (imageL_oct _) O3.out (by rw [← H2.out]; exact RD4.out)).mono ?_
  rintro e W5 ⟨A5, n5, c5, X5, rfl, hn5, hs, hr, hk, hx, hA5⟩
  have K5 := Lib.hid (K4.out.trans (hk.mono K4.out.size (fun _ _ h => h)))
  have XX5 := Lib.hid (hx.trans XX4.out)
  have hW45 := K4.out.size
  have hs45 := hk.size
  have hX5l : ∀ y, y ∈ blks X5 → y < W4.heap.size := fun y hy => by rw [XX5.out] at hy; have := HXL.out y hy; omega
  have hgl5 : g < W4.heap.size := by obtain ⟨_, _, _, _, _, h4, _⟩ := RD4.out; exact h4.lt
  obtain ⟨W6, hW6⟩ : ∃ W, W = W5.alloc (.cells (cs8 c.boots c.mode c.time (.slice A5 n5 c5) (.slice none 0 0) 0) TC) := ⟨_, rfl⟩
  obtain ⟨b, hbq⟩ : ∃ b, b = W5.heap.size := ⟨_, rfl⟩
  have hn5' : Hid (n5 = 160) := Lib.hid (by rw [hn5, IL.out])
  have K15 : Keep w.heap.size [] w W5 := K1.out.chain1 (Nat.le_refl _) K5.out hgw
  have D6 : Hid (DS w W6 g b X5 R3 c.boots c.mode c.time A5 n5 c5 (imageL c.led) none 0 0 [] 0) := Lib.hid (by
    have ka : Keep W5.heap.size [] W5 W6 := by rw [hW6]; exact (Keep.refl _ _ _).alloc (Nat.le_refl _) _
    have hw5 := K15.size
    refine ⟨K15.chain0 (Nat.le_refl _) ka, hr.keepS ka (by simp) (by simp), hgw, by rw [hW6, hbq]; exact Blk.new _ _ _, by omega, by omega, fun hm => by have := hX5l b hm; omega, hs.keep0 ka, fun y hy => ?_, Sl.nil _ _ _, by simp [blks]⟩
    have h1 := hA5 y hy
    have h2 := hs.blk hy
    have h3 := K1.out.size
    have h4 := K4.out.size
    exact ⟨by omega, by omega, by omega⟩)
  have BR6 : Hid (Blk W6 r TC (cs8 0 0 0 (.slice none 0 0) (.slice none 0 0) 0)) := Lib.hid (by
    have ka : Keep W5.heap.size [] W5 W6 := by rw [hW6]; exact (Keep.refl _ _ _).alloc (Nat.le_refl _) _
    have h1 := BR0.out.lt
    have h2 := HG.out
    exact ((BR0.out.keepS KW1.out (by simp)).keepS K5.out (by simp; omega)).keepS ka (by simp))
  have hrb : r ≠ b := by have h1 := BR0.out.lt; have h2 := KW1.out.size; omega
  have hrg : r ≠ g := by have h1 := BR0.out.lt; have h2 := HG.out; omega
  have hs56 : W5.heap.size ≤ W6.heap.size := by rw [hW6]; simp
  have hXlt : ∀ y, y ∈ blks X5 → y < W6.heap.size := fun y hy => by have h1 := hX5l y hy; omega
  have HA5R : Hid (∀ y, y ∈ blks A5 → y ≠ r) := Lib.hid (fun y hy => by have h1 := hA5 y hy; have h2 := BR0.out.lt; have h3 := KW1.out.size; omega)
  have HXLT := Lib.hid hXlt
  clear hn5 hs hr hk hx hA5 hX5l hXlt K2 K3 K4 K5 RD1 RD2 RD3 RD4 hgl5 hW45 hs45 XX2 XX3 XX4 XX5
  go_upto_region 3 with fail
  change Code.wp _ _ _ _ (W5.alloc (.cells (cs8 c.boots c.mode c.time (.slice A5 n5 c5) (.slice none 0 0) 0) TC))
  rw [← hW6, ← hbq]
  clear hW6 hbq
  go_wp2_with fail
  refine (rb_v [0] R4 1048576 (by decide) (by simp only [List.length_cons, List.length_nil]; omega) OZ.out O4.out (by rw [← H3.out]; exact D6.out.rd)).mono ?_
  rintro e W7 ⟨A7, n7, c7, X7, rfl, hn7, hs7, hr7, hk7, hx7, hA7⟩
  have D7 := Lib.hid (D6.out.read hr7 hk7 hx7)
  have BR7 := Lib.hid (BR6.out.keepS hk7 (by simpa using hrg))
  obtain rfl : n7 = 1 := hn7
  have S7 := Lib.hid hs7
  have XL7 : Hid (∀ y, y ∈ blks X7 → y < W7.heap.size) := Lib.hid (fun y hy => by rw [hx7] at hy; have := HXLT.out y hy; have := hk7.size; omega)
  clear hs7 hr7 hk7 hx7 hA7
  go_wp2_with fail
  refine (sdec_nil _ A7 c7 (S7.out.vw (by omega))).mono ?_
  rintro e W8 ⟨rfl, hk8⟩
  have D8 := Lib.hid (D7.out.other hk8)
  have BR8 := Lib.hid (BR7.out.keepS hk8 (by simp))
  have XL8 : Hid (∀ y, y ∈ blks X7 → y < W8.heap.size) := Lib.hid (fun y hy => Nat.lt_of_lt_of_le (XL7.out y hy) hk8.size)
  clear hk8
  have z4 := D8.out.box.frozen 4
  have y4 : W8.cell? ⟨b, 4, none⟩ = some (.slice none 0 0) := D8.out.box.cell 4
  go_upto_region 7 with fail
  have D9 := Lib.hid (D8.out.set 4 (.slice none 0 0) (x' := 0) rfl)
  have BR9 := Lib.hid (BR8.out.far (p := ⟨b, 4, none⟩) hrb (.slice none 0 0))
  have XL9 : Hid (∀ y, y ∈ blks X7 → y < (W8.setCell ⟨b, 4, none⟩ (.slice none 0 0)).heap.size) := Lib.hid (fun y hy => by have := XL8.out y hy; simpa [World.setCell] using this)
  obtain ⟨W9, hW9⟩ : ∃ W, W = W8.setCell ⟨b, 4, none⟩ (.slice none 0 0) := ⟨_, rfl⟩
  rw [← hW9] at D9 BR9 XL9 ⊢
  clear hW9 z4 y4 D8 D7 D6 BR8 BR7 BR6 XL7 XL8
  go_wp2_with fail
  refine (dc (v := 0) (M := R5) (by rw [← H4.out]; exact D9.out) 256 (by omega) (by omega) (by omega) O5.out).mono ?_
  rintro e W10 ⟨rfl, X10, hd10, hk10, hx10⟩
  have D10 := Lib.hid hd10
  have BR10 := Lib.hid (BR9.out.keepS hk10 (by simpa using hrg))
  have XL10 : Hid (∀ y, y ∈ blks X10 → y < W10.heap.size) := Lib.hid (fun y hy => by rw [hx10] at hy; exact Nat.lt_of_lt_of_le (XL9.out y hy) hk10.size)
  clear hd10 hk10 hx10
  go_wp2_with fail
  go_loopw [35] (fun j wr => j = .int .i64 0 ∧ wr = W10) (fun _ _ => 0)
  case atStart => exact ⟨rfl, rfl⟩
  case round =>
    obtain ⟨rfl, hwr⟩ := hrel
    rw [hwr]
    clear hwr wr
    go_wp2_with fail
    refine (dc (v := (c.done.length : Int)) (M := R6) (by rw [← H5.out]; exact D10.out) 256 (by omega) (by omega) (by omega) O6.out).mono ?_
    rintro e W11 ⟨rfl, X11, hd11, hk11, hx11⟩
    have D11 := Lib.hid hd11
    have BR11 := Lib.hid (BR10.out.keepS hk11 (by simpa using hrg))
    have XL11 : Hid (∀ y, y ∈ blks X11 → y < W11.heap.size) := Lib.hid (fun y hy => by rw [hx11] at hy; exact Nat.lt_of_lt_of_le (XL10.out y hy) hk11.size)
    clear hd11 hk11 hx11
    obtain ⟨ND, hND⟩ : ∃ ND, ND = c.done.length := ⟨_, rfl⟩
    rw [← hND] at hd ⊢
    have HND := Lib.hid hND
    clear hND
    obtain ⟨i0, hi0, hz0, hz1, hz2⟩ := info_parts infoFi
    go_wp2_with fail
    go_loopw [48] (fun j wr => ∃ (k : Nat) (X A : Option Addr) (d : Nat), k ≤ ND ∧ j = .int .i64 k ∧ DS w wr g b X ((c.done.drop k).flatMap fE ++ R7) c.boots c.mode c.time A5 n5 c5 (imageL c.led) A k d (c.done.take k) 0 ∧ Blk wr r TC (cs8 0 0 0 (.slice none 0 0) (.slice none 0 0) 0) ∧ (∀ y, y ∈ blks X → y < wr.heap.size) ∧ (∀ y, y ∈ blks A → y ≠ r)) (fun j _ => ND - (intOf j).toNat)
    case atStart => exact ⟨0, X11, none, 0, Nat.zero_le _, rfl, by rw [List.drop_zero, List.take_zero, ← H6.out]; exact D11.out, BR11.out, XL11.out, by simp [blks]⟩
    case round =>
      obtain ⟨k, X, A, d, hk, rfl, hds, hbr, hxl, har⟩ := hrel
      have DK := Lib.hid hds
      have BRK := Lib.hid hbr
      have XLK := Lib.hid hxl
      have HAR := Lib.hid har
      clear hds hbr hxl har
      by_cases hlt : k < ND
      · have hki : (k : Int) < (ND : Int) := by omega
        obtain ⟨f, hf⟩ : ∃ f, c.done[k]? = some f := ⟨_, List.getElem?_eq_getElem (by rw [← HND.out]; exact hlt)⟩
        have hdk : (c.done.drop k).flatMap fE ++ R7 = be f.s 1 ++ (be f.n 2 ++ ((c.done.drop (k + 1)).flatMap fE ++ R7)) := by
          obtain ⟨hk', rfl⟩ := List.getElem?_eq_some_iff.1 hf
          rw [List.drop_eq_getElem_cons hk', List.flatMap_cons]
          simp only [fE, List.append_assoc]
        have htk : c.done.take (k + 1) = c.done.take k ++ [f] := by rw [List.take_add_one, hf]; rfl
        obtain ⟨⟨s0, s1⟩, n0, n1⟩ := HFS.out f (List.mem_of_getElem? hf)
        have es := i64_in f.s (by omega) (by omega)
        have en := i64_in f.n (by omega) (by omega)
        obtain ⟨RR, hRR⟩ : ∃ RR, RR = (c.done.drop (k + 1)).flatMap fE ++ R7 := ⟨_, rfl⟩
        have oR : Hid (Oct RR) := Lib.hid (by rw [hRR]; exact (fE_oct _).app O7.out)
        rw [← hRR] at hdk
        have HRR := Lib.hid hRR
        have HDK := Lib.hid hdk
        have HTK := Lib.hid htk
        have DKD : Hid (DS w wr.drew g b X (be f.s 1 ++ (be f.n 2 ++ RR)) c.boots c.mode c.time A5 n5 c5 (imageL c.led) A k d (c.done.take k) 0) := Lib.hid (by rw [← HDK.out]; exact DK.out.other (Keep.refl _ _ _).drew)
        clear hRR hdk htk hf
        have y6 : wr.cell? ⟨b, 6, none⟩ = some (.slice A k d) := DK.out.box.cell 6
        go_wp2_with fail
        refine region_anyZ 12 (S := (fun w' => w'.cell? ⟨b, 6, none⟩ = some (.slice A k d))) (by kernel_rfl) (by exact DKD.out.box.cell 6) (fun hHeld => ?_)
        refine anyZ.take (i := 0) (oi := { dst := some 50, op := Op.fieldAddr 64 (Operand.tmp 5) 6, type := 0, pos := _, after := #[], guard := none }) (v := _) rfl (by kernel_rfl) (by kernel_rfl) (by kernel_rfl) (by kernel_rfl) (by kernel_rfl) (fun _ _ _ h => h) (Or.inl ⟨by rfl, by (intro wS hSw; (try dsimp only at hSw); go_simp; try with_reducible rfl)⟩) (by exact hHeld) ?_
        (try simp only [Act.put, List.setIfInBounds_toArray, List.set_cons_zero, List.set_cons_succ])
        refine anyZ.take (i := 1) (oi := { dst := some 51, op := Op.load 47 (Operand.tmp 50), type := 47, pos := _, after := #[{ on := 0, ground := Ground.data }], guard := none }) (v := _) rfl (by kernel_rfl) (by kernel_rfl) (by kernel_rfl) (by kernel_rfl) (by kernel_rfl) (fun _ _ _ h => h) (Or.inl ⟨by rfl, by (intro wS hSw; (try dsimp only at hSw); go_simp; try with_reducible rfl)⟩) (by exact hHeld) ?_
        (try simp only [Act.put, List.setIfInBounds_toArray, List.set_cons_zero, List.set_cons_succ])
        refine anyZ.take (i := 2) (oi := { dst := some 52, op := Op.move (Operand.tmp 4), type := 120, pos := _, after := #[], guard := none }) (v := _) rfl (by kernel_rfl) (by kernel_rfl) (by kernel_rfl) (by kernel_rfl) (by kernel_rfl) (fun _ _ _ h => h) (Or.inl ⟨by rfl, by (intro wS hSw; (try dsimp only at hSw); go_simp; try with_reducible rfl)⟩) (by exact hHeld) ?_
        (try simp only [Act.put, List.setIfInBounds_toArray, List.set_cons_zero, List.set_cons_succ])
        refine anyZ.take (i := 5) (oi := { dst := some 55, op := Op.move (Operand.tmp 4), type := 120, pos := _, after := #[], guard := none }) (v := _) rfl (by kernel_rfl) (by kernel_rfl) (by kernel_rfl) (by kernel_rfl) (by kernel_rfl) (fun _ _ _ h => h) (Or.inl ⟨by rfl, by (intro wS hSw; (try dsimp only at hSw); go_simp; try with_reducible rfl)⟩) (by exact hHeld) ?_
        (try simp only [Act.put, List.setIfInBounds_toArray, List.set_cons_zero, List.set_cons_succ])
        refine anyZ.ready (rs := [3]) (by kernel_rfl) (by simp) ?_
        refine (AllZ.cons (o := { dst := some 53, op := Op.call { callee := Callee.value (Operand.func 53), args := #[Operand.tmp 52, Operand.const (Value.int IntKind.i64 1)], argTypes := #[120, 3] }, type := 95, pos := _, after := #[{ on := 2, ground := Ground.data }], guard := none }) rfl (fun K hK => ?_) AllZ.nil)
        go_simp
        refine (du (v := f.s) (k := 1) (M := be f.n 2 ++ RR) (by exact DKD.out) 1 rfl (by omega) (by omega) (by omega) (by omega) ((be_octC _ _).app oR.out)).mono ?_
        rintro e U1 ⟨rfl, Y1, hd1, hk1, hx1⟩
        have E1 := Lib.hid hd1
        have BU1 := Lib.hid (BRK.out.keepS hk1.undrew (by simpa using hrg))
        have XU1 : Hid (∀ y, y ∈ blks Y1 → y < U1.heap.size) := Lib.hid (fun y hy => by rw [hx1] at hy; exact Nat.lt_of_lt_of_le (XLK.out y hy) hk1.undrew.size)
        clear hd1 hk1 hx1
        refine hK.out _ _ (fun _ => (by exact E1.out.box.cell 6)) (fun hHeld => ?_)
        clear hK K
        replace hHeld := hHeld (by kernel_rfl)
        (try simp only [Act.put, List.setIfInBounds_toArray, List.set_cons_zero, List.set_cons_succ])
        refine anyZ.take (i := 4) (oi := { dst := some 54, op := Op.convert 95 3 (Operand.tmp 53), type := 3, pos := _, after := #[{ on := 3, ground := Ground.data }], guard := none }) (v := _) rfl (by kernel_rfl) (by kernel_rfl) (by kernel_rfl) (by kernel_rfl) (by kernel_rfl) (fun _ _ _ h => h) (Or.inl ⟨by rfl, by (intro wS hSw; (try dsimp only at hSw); go_simp; try with_reducible rfl)⟩) (by exact hHeld) ?_
        (try simp only [Act.put, List.setIfInBounds_toArray, List.set_cons_zero, List.set_cons_succ])
        refine anyZ.ready (rs := [6]) (by kernel_rfl) (by simp) ?_
        refine (AllZ.cons (o := { dst := some 56, op := Op.call { callee := Callee.value (Operand.func 53), args := #[Operand.tmp 55, Operand.const (Value.int IntKind.i64 2)], argTypes := #[120, 3] }, type := 95, pos := _, after := #[{ on := 5, ground := Ground.data }, { on := 3, ground := Ground.chain }], guard := none }) rfl (fun K hK => ?_) AllZ.nil)
        go_simp
        refine (du (v := f.n) (k := 2) (M := RR) (by exact E1.out) 2 rfl (by omega) (by omega) (by omega) (by omega) oR.out).mono ?_
        rintro e U2 ⟨rfl, Y2, hd2, hk2, hx2⟩
        have E2 := Lib.hid hd2
        have BU2 := Lib.hid (BU1.out.keepS hk2 (by simpa using hrg))
        have XU2 : Hid (∀ y, y ∈ blks Y2 → y < U2.heap.size) := Lib.hid (fun y hy => by rw [hx2] at hy; exact Nat.lt_of_lt_of_le (XU1.out y hy) hk2.size)
        clear hd2 hk2 hx2
        refine hK.out _ _ (fun _ => (by exact E2.out.box.cell 6)) (fun hHeld => ?_)
        clear hK K
        replace hHeld := hHeld (by kernel_rfl)
        (try simp only [Act.put, List.setIfInBounds_toArray, List.set_cons_zero, List.set_cons_succ])
        refine anyZ.take (i := 7) (oi := { dst := some 57, op := Op.convert 95 3 (Operand.tmp 56), type := 3, pos := _, after := #[{ on := 6, ground := Ground.data }], guard := none }) (v := _) rfl (by kernel_rfl) (by kernel_rfl) (by kernel_rfl) (by kernel_rfl) (by kernel_rfl) (fun _ _ _ h => h) (Or.inl ⟨by rfl, by (intro wS hSw; (try dsimp only at hSw); go_simp; try with_reducible rfl)⟩) (by exact hHeld) ?_
        (try simp only [Act.put, List.setIfInBounds_toArray, List.set_cons_zero, List.set_cons_succ])
        refine anyZ.take (i := 8) (oi := { dst := some 58, op := Op.build 75 #[(0, Operand.tmp 54), (1, Operand.tmp 57)], type := 75, pos := _, after := #[{ on := 4, ground := Ground.data }, { on := 7, ground := Ground.data }], guard := none }) (v := _) rfl (by kernel_rfl) (by kernel_rfl) (by kernel_rfl) (by kernel_rfl) (by kernel_rfl) (fun _ _ _ h => h) (Or.inl ⟨by rfl, by (intro wS hSw; (try dsimp only at hSw); go_simp; try with_reducible rfl)⟩) (by exact hHeld) ?_
        (try simp only [Act.put, List.setIfInBounds_toArray, List.set_cons_zero, List.set_cons_succ])
        refine anyZ.ready (rs := [9]) (by kernel_rfl) (by simp) ?_
        refine (AllZ.cons (o := { dst := some 59, op := Op.buildSlice 47 1 #[(0, Operand.tmp 58)], type := 47, pos := _, after := #[{ on := 8, ground := Ground.data }], guard := none }) rfl (fun K hK => ?_) AllZ.nil)
        go_simp
        obtain ⟨V7, hV7⟩ : ∃ V, V = U2.alloc (.cells #[.int .i64 f.s, .int .i64 f.n] TF) := ⟨_, rfl⟩
        have kv : Keep U2.heap.size [] U2 V7 := by rw [hV7]; exact (Keep.refl _ _ _).alloc (Nat.le_refl _) _
        have E3 := Lib.hid (E2.out.other kv)
        have BU3 := Lib.hid (BU2.out.keepS kv (by simp))
        have BC : Hid (Blk V7 U2.heap.size TF #[.int .i64 f.s, .int .i64 f.n]) := Lib.hid (by rw [hV7]; exact Blk.new _ _ _)
        have XU3 : Hid (∀ y, y ∈ blks Y2 → y < V7.heap.size) := Lib.hid (fun y hy => Nat.lt_of_lt_of_le (XU2.out y hy) kv.size)
        have HV7 := Lib.hid kv.size
        rw [← hV7]
        clear hV7 kv
        refine hK.out _ _ (fun _ => (by exact E3.out.box.cell 6)) (fun hHeld => ?_)
        clear hK K
        replace hHeld := hHeld (by kernel_rfl)
        (try simp only [Act.put, List.setIfInBounds_toArray, List.set_cons_zero, List.set_cons_succ])
        refine anyZ.ready (rs := [10]) (by kernel_rfl) (by simp) ?_
        refine (AllZ.cons (o := { dst := some 60, op := Op.call { callee := Callee.builtin Builtin.append, args := #[Operand.tmp 51, Operand.tmp 59], argTypes := #[47, 47] }, type := 47, pos := _, after := #[{ on := 1, ground := Ground.data }, { on := 9, ground := Ground.data }, { on := 6, ground := Ground.chain }], guard := none }) rfl (fun K hK => ?_) AllZ.nil)
        refine step_app1 _ (by rfl) (.tmp 51) (.tmp 59) 47 (by rfl) TF i0 _ 2 16 Try.underlying47 hi0 hz0 hz1 hz2 rfl (by omega) A k d ((c.done.take k).flatMap fcells) (by rfl) (by exact E3.out.sl) _ _ _ (by rfl) (by exact BC.out) rfl rfl (by omega) (by omega) ?_
        intro A8 c8 w8 hs8 hk8 hb8
        have GA := Lib.hid (E3.out.add (y := f) XU3.out (by omega) hs8 hk8 hb8)
        have hbx := E3.out.box.keepS hk8 (fun hm => (E3.out.ha b hm).2.2.1 rfl)
        have hbr := BU3.out.keepS hk8 (fun hm => HAR.out r hm rfl)
        have GR := Lib.hid (hbr.far (p := ⟨b, 6, none⟩) hrb (.slice A8 (k + 1) c8))
        have XU8 : Hid (∀ y, y ∈ blks Y2 → y < (w8.setCell ⟨b, 6, none⟩ (.slice A8 (k + 1) c8)).heap.size) := Lib.hid (fun y hy => by have := XU3.out y hy; have := hk8.size; simp only [World.setCell, Array.size_modify]; omega)
        have AR8 : Hid (∀ y, y ∈ blks A8 → y ≠ r) := Lib.hid (fun y hy => by (rcases hb8 y hy with h' | h'); exact HAR.out y h'; have := BU3.out.lt; omega)
        have z6 := hbx.frozen 6
        have x6 : w8.cell? ⟨b, 6, none⟩ = some (.slice A k d) := hbx.cell 6
        have HBX := Lib.hid hbx
        clear hs8 hk8 hb8 hbx hbr
        refine hK.out _ _ (fun _ => (by exact HBX.out.cell 6)) (fun hHeld => ?_)
        clear hK K
        replace hHeld := hHeld (by kernel_rfl)
        (try simp only [Act.put, List.setIfInBounds_toArray, List.set_cons_zero, List.set_cons_succ])
        refine anyZ.take (i := 11) (oi := { dst := some 61, op := Op.fieldAddr 64 (Operand.tmp 5) 6, type := 0, pos := _, after := #[{ on := 0, ground := Ground.phase }, { on := 1, ground := Ground.phase }, { on := 2, ground := Ground.phase }, { on := 3, ground := Ground.phase }, { on := 4, ground := Ground.phase }, { on := 5, ground := Ground.phase }, { on := 6, ground := Ground.phase }, { on := 7, ground := Ground.phase }, { on := 8, ground := Ground.phase }, { on := 9, ground := Ground.phase }, { on := 10, ground := Ground.phase }], guard := none }) (v := _) rfl (by kernel_rfl) (by kernel_rfl) (by kernel_rfl) (by kernel_rfl) (by kernel_rfl) (fun _ _ _ h => h) (Or.inl ⟨by rfl, by (intro wS hSw; (try dsimp only at hSw); go_simp; try with_reducible rfl)⟩) (by exact hHeld) ?_
        (try simp only [Act.put, List.setIfInBounds_toArray, List.set_cons_zero, List.set_cons_succ])
        refine anyZ.ready (rs := [12]) (by kernel_rfl) (by simp) ?_
        refine (AllZ.cons (o := { dst := none, op := Op.store 47 (Operand.tmp 61) (Operand.tmp 60), type := 0, pos := _, after := #[{ on := 11, ground := Ground.data }, { on := 10, ground := Ground.data }, { on := 10, ground := Ground.chain }, { on := 0, ground := Ground.phase }, { on := 1, ground := Ground.phase }, { on := 2, ground := Ground.phase }, { on := 3, ground := Ground.phase }, { on := 4, ground := Ground.phase }, { on := 5, ground := Ground.phase }, { on := 6, ground := Ground.phase }, { on := 7, ground := Ground.phase }, { on := 8, ground := Ground.phase }, { on := 9, ground := Ground.phase }, { on := 10, ground := Ground.phase }], guard := none }) rfl (fun K hK => ?_) AllZ.nil)
        go_simp
        refine hK.out _ _ (fun h => absurd h (by decide)) (fun hHeld => ?_)
        clear hK K
        (try simp only [Act.put, List.setIfInBounds_toArray, List.set_cons_zero, List.set_cons_succ])
        refine anyZ.done (by kernel_rfl) ?_ _
        clear hHeld
        go_wp2_with fail
        go_roundw
        case rel =>
          refine ⟨k + 1, Y2, A8, c8, by omega, by go_num, ?_, GR.out, XU8.out, AR8.out⟩
          rw [HTK.out, ← HRR.out]; exact GA.out
        case measure => simp [intOf] <;> omega
      · obtain rfl : k = ND := by omega
        have hdr : (c.done.drop k).flatMap fE ++ R7 = vI c.next ++ [] := by rw [HND.out, List.drop_length, H7.out]; simp
        have htk : c.done.take k = c.done := by rw [HND.out, List.take_length]
        have DE : Hid (DS w wr g b X (vI c.next ++ []) c.boots c.mode c.time A5 n5 c5 (imageL c.led) A k d c.done 0) := Lib.hid (by rw [← hdr]; have h := DK.out; rw [htk] at h; exact h)
        clear hdr htk
        go_wp2_with fail
        refine (di (v := c.next) (M := []) (by exact DE.out) (by omega) (by omega) (fun x hx => by cases hx)).mono ?_
        rintro e W12 ⟨rfl, X12, hd12, hk12, hx12⟩
        have D12 := Lib.hid hd12
        have BR12 := Lib.hid (BRK.out.keepS hk12 (by simpa using hrg))
        clear hd12 hk12 hx12
        have z7 := D12.out.box.frozen 7
        have y7 : W12.cell? ⟨b, 7, none⟩ = some (.int .i64 0) := D12.out.box.cell 7
        go_upto_region 16 with fail
        have D13 := Lib.hid (D12.out.set 7 (.int .i64 c.next) (x' := c.next) rfl)
        have BR13 := Lib.hid (BR12.out.far (p := ⟨b, 7, none⟩) hrb (.int .i64 c.next))
        obtain ⟨W13, hW13⟩ : ∃ W, W = W12.setCell ⟨b, 7, none⟩ (.int .i64 c.next) := ⟨_, rfl⟩
        rw [← hW13] at D13 BR13 ⊢
        clear hW13 z7 y7
        have CI : Hid (CIn W13 c ⟨A5, n5, c5, A, k, d⟩) := Lib.hid ⟨D13.out.vl.vw (by omega), D13.out.sl.vw (by omega), D13.out.vl.cap, D13.out.sl.cap, H16.out, HLO.out, HLR.out, hd⟩
        have BX := D13.out.box
        have BXH := Lib.hid BX
        have q0 : W13.cell? ⟨b, 0, none⟩ = some (.int .i64 c.boots) := BX.cell 0
        have q1 : W13.cell? ⟨b, 1, none⟩ = some (.int .i64 c.mode) := BX.cell 1
        have q2 : W13.cell? ⟨b, 2, none⟩ = some (.int .i64 c.time) := BX.cell 2
        have q3 : W13.cell? ⟨b, 3, none⟩ = some (.slice A5 n5 c5) := BX.cell 3
        have q4 : W13.cell? ⟨b, 4, none⟩ = some (.slice none 0 0) := BX.cell 4
        have q5 : W13.cell? ⟨b, 5, none⟩ = some (.slice none 0 0) := BX.cell 5
        have q6 : W13.cell? ⟨b, 6, none⟩ = some (.slice A k d) := BX.cell 6
        have q7 : W13.cell? ⟨b, 7, none⟩ = some (.int .i64 c.next) := BX.cell 7
        clear BX
        go_wp2_with fail
        refine (cenc_yes _ c ⟨A5, n5, c5, A, k, d⟩ (by exact CI.out) HOK.out).mono ?_
        rintro e W14 ⟨A14, n14, c14, rfl, hn14, hs14, hk14, hA14⟩
        obtain rfl : n14 = m0 := by have := HML.out; omega
        have S14 := Lib.hid hs14
        have D14 := Lib.hid (D13.out.other hk14)
        have BR14 := Lib.hid (BR13.out.keepS hk14 (by simp))
        have CI14 := Lib.hid (CI.out.keep0 hk14)
        clear hn14 hs14 hk14 hA14 q0 q1 q2 q3 q4 q5 q6 q7
        go_wp2_with fail
        refine (rend_yes _ g X12 [] D14.out.rd).mono ?_
        rintro e w' ⟨rfl, rfl⟩
        go_wp2_with fail
        refine (beq_same _ A14 X0 n14 c14 k0 (encC c) (S14.out.vw (by omega)) (HV.out.keep0 D14.out.keep)).mono ?_
        rintro e w' ⟨rfl, rfl⟩
        have BX := D14.out.box
        have BXH := Lib.hid BX
        have q0 : W14.cell? ⟨b, 0, none⟩ = some (.int .i64 c.boots) := BX.cell 0
        have q1 : W14.cell? ⟨b, 1, none⟩ = some (.int .i64 c.mode) := BX.cell 1
        have q2 : W14.cell? ⟨b, 2, none⟩ = some (.int .i64 c.time) := BX.cell 2
        have q3 : W14.cell? ⟨b, 3, none⟩ = some (.slice A5 n5 c5) := BX.cell 3
        have q4 : W14.cell? ⟨b, 4, none⟩ = some (.slice none 0 0) := BX.cell 4
        have q5 : W14.cell? ⟨b, 5, none⟩ = some (.slice none 0 0) := BX.cell 5
        have q6 : W14.cell? ⟨b, 6, none⟩ = some (.slice A k d) := BX.cell 6
        have q7 : W14.cell? ⟨b, 7, none⟩ = some (.int .i64 c.next) := BX.cell 7
        clear BX
        have BR := BR14.out
        have z0 := BR.frozen 0
        have x0 : W14.cell? ⟨r, 0, none⟩ = some (.int .i64 0) := BR.cell 0
        have z1 := BR.frozen 1
        have x1 : W14.cell? ⟨r, 1, none⟩ = some (.int .i64 0) := BR.cell 1
        have z2 := BR.frozen 2
        have x2 : W14.cell? ⟨r, 2, none⟩ = some (.int .i64 0) := BR.cell 2
        have z3 := BR.frozen 3
        have x3 : W14.cell? ⟨r, 3, none⟩ = some (.slice none 0 0) := BR.cell 3
        have z4 := BR.frozen 4
        have x4 : W14.cell? ⟨r, 4, none⟩ = some (.slice none 0 0) := BR.cell 4
        have z5 := BR.frozen 5
        have x5 : W14.cell? ⟨r, 5, none⟩ = some (.slice none 0 0) := BR.cell 5
        have z6 := BR.frozen 6
        have x6 : W14.cell? ⟨r, 6, none⟩ = some (.slice none 0 0) := BR.cell 6
        have z7 := BR.frozen 7
        have x7 : W14.cell? ⟨r, 7, none⟩ = some (.int .i64 0) := BR.cell 7
        have HBR := Lib.hid BR
        clear BR
        go_wp2_with fail
        refine bodyPost_ret (v := .tuple #[.agg (ccs c ⟨A5, n5, c5, A, k, d⟩), .int .i64 0]) (by simp [ccs, results, Try.results26, go_sem, x0, x1, x2, x3, x4, x5, x6, x7]) rfl ?_
        refine ⟨⟨A5, n5, c5, A, k, d⟩, rfl, CI14.out.keepS (S := [r]) (Keep.set1 (Keep.set1 (Keep.set1 (Keep.set1 (Keep.set1 (Keep.set1 (Keep.set1 (Keep.set1 (Keep.refl _ _ _))))))))) (fun y hy => by simpa using HA5R.out y hy) (fun y hy => by simpa using HAR.out y hy), ?_⟩
        exact Keep.setN (Keep.setN (Keep.setN (Keep.setN (Keep.setN (Keep.setN (Keep.setN (Keep.setN D14.out.keep hr0) hr0) hr0) hr0) hr0) hr0) hr0) hr0
end Go.Proofs.Ytfkbcflgbjncdaa
