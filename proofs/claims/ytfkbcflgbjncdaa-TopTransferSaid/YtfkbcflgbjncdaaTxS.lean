/- The library's contract of slices.SortFunc, at this program's numbers: ranges by their beginnings. -/
import Derived.Test.YtfkbcflgbjncdaaTxD
import Derived.Shelf.SlSortCmp.NoneTotal
namespace Go.Proofs.Ytfkbcflgbjncdaa
set_option linter.unusedVariables false
set_option linter.unusedSimpArgs false
open Go.RowKit Go.Proofs Go.Sort
/-- the library's numbers turned to this program's -/
def renS : Go.Shelf.Ren := ⟨fun n => if n = 6 then 157 else if n = 14 then 166 else if n = 15 then 167 else if n = 20 then 170 else if n = 21 then 171 else if n = 22 then 172 else if n = 23 then 173 else if n = 24 then 174 else if n = 25 then 175 else if n = 26 then 176 else if n = 27 then 177 else if n = 28 then 178 else if n = 29 then 179 else if n = 46 then 180 else if n = 47 then 181 else if n = 48 then 182 else if n = 49 then 183 else if n = 50 then 184 else if n = 57 then 185 else 0,
  fun n => if n = 0 then 0 else if n = 3 then 3 else if n = 4 then 4 else if n = 5 then 5 else if n = 9 then 9 else if n = 22 then 83 else if n = 24 then 158 else if n = 25 then 212 else if n = 39 then 169 else if n = 45 then 222 else if n = 46 then 223 else if n = 50 then 160 else if n = 53 then 82 else if n = 55 then 95 else if n = 66 then 229 else if n = 70 then 233 else if n = 76 then 235 else if n = 77 then 236 else 0, fun n => n⟩
set_option maxRecDepth 100000 in
theorem laysS : SlLaysF0.n6 Try.prog renS where
  mixed := by kernel_rfl
  f6 := ⟨Try.f157.name, by kernel_rfl, by kernel_rfl⟩
  f14 := ⟨Try.f166.name, by kernel_rfl, by kernel_rfl⟩
  f15 := by kernel_rfl
  f20 := ⟨Try.f170.name, by kernel_rfl, by kernel_rfl⟩
  f21 := ⟨Try.f171.name, by kernel_rfl, by kernel_rfl⟩
  f22 := ⟨Try.f172.name, by kernel_rfl, by kernel_rfl⟩
  f23 := ⟨Try.f173.name, by kernel_rfl, by kernel_rfl⟩
  f24 := ⟨Try.f174.name, by kernel_rfl, by kernel_rfl⟩
  f25 := ⟨Try.f175.name, by kernel_rfl, by kernel_rfl⟩
  f26 := ⟨Try.f176.name, by kernel_rfl, by kernel_rfl⟩
  f27 := ⟨Try.f177.name, by kernel_rfl, by kernel_rfl⟩
  f28 := by kernel_rfl
  f29 := by kernel_rfl
  f46 := ⟨Try.f180.name, by kernel_rfl, by kernel_rfl⟩
  f47 := by kernel_rfl
  f48 := by kernel_rfl
  f49 := ⟨Try.f183.name, by kernel_rfl, by kernel_rfl⟩
  f50 := ⟨Try.f184.name, by kernel_rfl, by kernel_rfl⟩
  f57 := ⟨Try.f185.name, by kernel_rfl, by kernel_rfl⟩
  t0 := Try.underlying0
  a0 := Try.isAgg0
  z0 := Try.sizeOf0
  v0 := Try.zeroValue0
  t3 := Try.underlying3
  a3 := Try.isAgg3
  z3 := Try.sizeOf3
  v3 := Try.zeroValue3
  t4 := Try.underlying4
  a4 := Try.isAgg4
  z4 := Try.sizeOf4
  v4 := Try.zeroValue4
  t5 := Try.underlying5
  a5 := Try.isAgg5
  z5 := Try.sizeOf5
  v5 := Try.zeroValue5
  t9 := Try.underlying9
  a9 := Try.isAgg9
  z9 := Try.sizeOf9
  v9 := Try.zeroValue9
  t22 := Try.underlying83
  a22 := Try.isAgg83
  z22 := Try.sizeOf83
  v22 := Try.zeroValue83
  t25 := Try.underlying212
  a25 := Try.isAgg212
  z25 := Try.sizeOf212
  v25 := Try.zeroValue212
  t39 := Try.underlying169
  a39 := Try.isAgg169
  z39 := Try.sizeOf169
  v39 := Try.zeroValue169
  t45 := Try.underlying222
  a45 := Try.isAgg222
  z45 := Try.sizeOf222
  v45 := Try.zeroValue222
  t46 := Try.underlying223
  a46 := Try.isAgg223
  z46 := Try.sizeOf223
  v46 := Try.zeroValue223
  t50 := Try.underlying160
  a50 := Try.isAgg160
  z50 := Try.sizeOf160
  v50 := Try.zeroValue160
  t53 := Try.underlying82
  a53 := Try.isAgg82
  z53 := Try.sizeOf82
  v53 := Try.zeroValue82
  t55 := Try.underlying95
  a55 := Try.isAgg95
  z55 := Try.sizeOf95
  v55 := Try.zeroValue95
  t66 := Try.underlying229
  a66 := Try.isAgg229
  z66 := Try.sizeOf229
  v66 := Try.zeroValue229
  t70 := Try.underlying233
  a70 := Try.isAgg233
  z70 := Try.sizeOf233
  v70 := Try.zeroValue233
  t76 := Try.underlying235
  a76 := Try.isAgg235
  z76 := Try.sizeOf235
  v76 := Try.zeroValue235
  t77 := Try.underlying236
  a77 := Try.isAgg236
  z77 := Try.sizeOf236
  v77 := Try.zeroValue236
instance : Inhabited Gp := ⟨⟨0, 0⟩⟩
def cmpI (a b : Int) : Int := if a < b then -1 else if b < a then 1 else 0
def cmpG (x y : Gp) : Int := cmpI x.f y.f
theorem isnan_any (w : World) (a : Int) : Calls Try.prog 168 #[.int .i64 a] w fun e w' => e = .returned (.bool false) ∧ w = w' := by
  go_enter Try.func168, Try.ntmps168
  go_wp2_with fail
  go_ret
  exact ⟨rfl, rfl⟩
set_option maxHeartbeats 1000000 in
theorem compare_any (w : World) (a b : Int) : Calls Try.prog 159 #[.int .i64 a, .int .i64 b] w fun e w' => e = .returned (.int .i64 (cmpI a b)) ∧ w = w' := by
  unfold cmpI
  rcases (by omega : a < b ∨ a = b ∨ b < a) with h | h | h
  · go_enter Try.func159, Try.ntmps159
    go_wp2_with fail
    refine (isnan_any _ a).mono ?_
    rintro e w' ⟨rfl, rfl⟩
    go_wp2_with fail
    refine (isnan_any _ b).mono ?_
    rintro e w' ⟨rfl, rfl⟩
    go_wp2_with fail
    go_ret
    exact ⟨by first | rfl | (rw [if_pos h]; rfl), rfl⟩
  · subst h
    go_enter Try.func159, Try.ntmps159
    go_wp2_with fail
    refine (isnan_any _ a).mono ?_
    rintro e w' ⟨rfl, rfl⟩
    go_wp2_with fail
    refine (isnan_any _ a).mono ?_
    rintro e w' ⟨rfl, rfl⟩
    go_wp2_with fail
    go_ret
    exact ⟨by first | rfl | (rw [if_neg (by omega), if_neg (by omega)]; rfl), rfl⟩
  · have h2 : ¬ a < b := by omega
    go_enter Try.func159, Try.ntmps159
    go_wp2_with fail
    refine (isnan_any _ a).mono ?_
    rintro e w' ⟨rfl, rfl⟩
    go_wp2_with fail
    refine (isnan_any _ b).mono ?_
    rintro e w' ⟨rfl, rfl⟩
    go_wp2_with fail
    go_ret
    exact ⟨by first | rfl | (rw [if_neg (by omega), if_pos h]; rfl), rfl⟩
set_option maxHeartbeats 1000000 in
theorem cmp_cl (x y : Gp) (W : World) : Calls Try.prog 158 #[.agg #[.int .i64 x.f, .int .i64 x.t], .agg #[.int .i64 y.f, .int .i64 y.t]] W fun e w' => e = .returned (.int .i64 (cmpG x y)) ∧ ∃ q os', w' = grow (W.drewN q) os' := by
  have hcon := fun W' => compare_any W' x.f y.f
  unfold cmpG
  generalize cmpI x.f y.f = r at hcon ⊢
  go_enter Try.func158, Try.ntmps158
  go_wp2_with fail
  refine (hcon _).mono ?_
  rintro e w' ⟨rfl, rfl⟩
  go_wp2_with fail
  go_ret
  exact ⟨rfl, 0, _, by rw [alloc_eq_grow, alloc_eq_grow, grow_grow]; rfl⟩
theorem lt_cmp (x y : Gp) : ltOf cmpG x y = decide (x.f < y.f) := by
  unfold ltOf cmpG cmpI
  by_cases h1 : x.f < y.f
  · simp [h1]
  · by_cases h2 : y.f < x.f <;> simp [h1, h2]
theorem swoG : SWO (ltOf cmpG) where
  irrefl x := by rw [lt_cmp]; simp
  trans x y z h1 h2 := by rw [lt_cmp] at *; simp at *; omega
  ntrans x y z h1 h2 := by rw [lt_cmp] at *; simp at *; omega
def SoPost (w : World) (A : Option Addr) (n : Nat) (L : List Gp) (e : Ending) (w' : World) : Prop :=
  e = .returned (.tuple #[]) ∧ ∃ L', L'.Perm L ∧ L'.Pairwise (fun a b => a.f ≤ b.f) ∧ Vw w' A n 2 (gcs L') ∧ Keep w.heap.size (blks A) w w'
theorem flat_gcs (d : Array Gp) (j : Nat) (hj : j < d.size * 2) : (gcs d.toList)[j]? = some (flatK gcells 2 d)[j]! := by
  have hi : j / 2 < d.size := by omega
  have hx : d.toList[j / 2]? = some d[j / 2]! := by simp [hi]
  have h1 := flat_get (f := gcells) (n := 2) (fun _ => rfl) d.toList (j / 2) _ (j % 2) hx (by omega)
  rw [show j / 2 * 2 + j % 2 = j by omega] at h1
  rw [get_flatK _ _ _ _ hj]
  unfold gcs
  rw [h1]
  rcases (by omega : j % 2 = 0 ∨ j % 2 = 1) with h | h <;> rw [h] <;> rfl
theorem sort_some (w : World) (x n c : Nat) (L : List Gp) (hn : n ≤ 100000) (hl : n = L.length) (hx : x < w.heap.size) (hc : ∀ j u, (gcs L)[j]? = some u → w.cell? ⟨x, j, none⟩ = some u ∧ w.frozen? ⟨x, j, none⟩ = false) :
    Calls Try.prog 157 #[.slice (some ⟨x, 0, none⟩) n c, .func (.func 158) #[] #[]] w (SoPost w (some ⟨x, 0, none⟩) n L) := by
  have eg : ∀ args w, (callFunc 158 args).run Try.prog w = .ok (.enter 158 args) w := enters_of Try.func158 (by kernel_rfl) rfl
  have hH : HoldsK gcells 2 w x 0 L.toArray := fun j hj => by
    rw [size_flatK] at hj
    have h := flat_gcs L.toArray j hj
    have h2 := hc j _ h
    rw [Nat.zero_add]
    exact h2
  subst hl
  have hcon := AnyQ.slices_SortFunc laysS 2 Try.isAgg158 Try.sizeOf158 gcells (fun _ => rfl) (fun g v hv => by simp [gcells] at hv; rcases hv with rfl | rfl <;> rfl) cmpG swoG 158 #[] x 0 c L.toArray w eg (fun _ _ _ _ a b => cmp_cl a b _) hH hx (by simp; omega)
  refine Calls.mono hcon ?_
  rintro e w' ⟨rfl, d', q, os, hp, hs, rfl⟩
  have hsz : d'.size = L.toArray.size := hp.1
  have hH2 : HoldsK gcells 2 (sortWorldK gcells 2 w x 0 q d' os) x 0 d' := holdsK_grow gcells 2 _ os x 0 d' (by rw [size_putRowK]; exact hx) (holdsK_putRowK gcells 2 _ x 0 _ d' (holdsK_ahead gcells 2 w q x 0 _ hH) hsz)
  refine ⟨rfl, d'.toList, ?_, ?_, ⟨?_, fun _ => ⟨x, 0, rfl, ?_, fun j u hj => ?_⟩⟩, ?_⟩
  · have h := hp.2.2
    have e1 : d'.extract 0 L.toArray.size = d' := by rw [← hsz]; exact Array.extract_size
    have e2 : L.toArray.extract 0 L.toArray.size = L.toArray := Array.extract_size
    rw [e1, e2] at h
    exact h
  · rw [List.pairwise_iff_getElem]
    intro i j hi hj hij
    have h := hs i j (Nat.zero_le _) hij (by rw [← hsz]; simpa using hj)
    rw [lt_cmp] at h
    have e1 : d'[i]! = d'.toList[i] := by rw [getElem!_pos d' i (by simpa using hi)]; simp
    have e2 : d'[j]! = d'.toList[j] := by rw [getElem!_pos d' j (by simpa using hj)]; simp
    rw [e1, e2] at h
    have := of_decide_eq_false h
    omega
  · rw [gcells_len]; simp [hsz]
  · unfold sortWorldK; rw [size_grow, size_putRowK]; show x < w.heap.size + _; omega
  · have hj2 : j < d'.size * 2 := by have := (List.getElem?_eq_some_iff.1 hj).1; rw [gcells_len] at this; simpa using this
    have h := (hH2 j (by rw [size_flatK]; exact hj2)).1
    rw [h, ← hj, flat_gcs d' j hj2]
    rfl
  · refine ⟨rfl, rfl, rfl, ?_, fun k hk hkx => ?_⟩
    · unfold sortWorldK; rw [size_grow, size_putRowK]; show w.heap.size ≤ w.heap.size + _; omega
    · have hkx' : k ≠ x := by simpa [blks] using hkx
      unfold sortWorldK
      rw [heap_grow_old _ _ (by rw [size_putRowK]; exact hk)]
      unfold putRowK putRow mapBlock
      simp only [heap_ahead]
      rw [Array.getElem?_modify, if_neg (Ne.symm hkx')]
theorem sort_any (w : World) (A : Option Addr) (n c : Nat) (L : List Gp) (hn : n ≤ 100000) (hv : Vw w A n 2 (gcs L)) (hf : ∀ x j, A = some ⟨x, 0, none⟩ → j < n * 2 → w.frozen? ⟨x, j, none⟩ = false) (hA : A = none ∨ ∃ x, A = some ⟨x, 0, none⟩) :
    Calls Try.prog 157 #[.slice A n c, .func (.func 158) #[] #[]] w (SoPost w A n L) := by
  have hl : n = L.length := by have := hv.1; rw [gcells_len] at this; omega
  rcases Nat.eq_zero_or_pos n with h0 | h0
  · subst h0
    obtain rfl : L = [] := List.eq_nil_of_length_eq_zero hl.symm
    have hcon := AnyF.slices_SortFunc_none laysS A c (.func (.func 158) #[] #[]) w
    refine Calls.mono hcon ?_
    rintro e w' ⟨rfl, rfl⟩
    exact ⟨rfl, [], List.Perm.refl _, List.Pairwise.nil, Vw.zero _ _ _, Keep.refl _ _ _⟩
  · rcases hA with rfl | ⟨x, rfl⟩
    · obtain ⟨_, _, h, _⟩ := hv.2 h0; cases h
    · obtain ⟨b, o, he, hb, hc⟩ := hv.2 h0
      cases he
      refine sort_some w x n c L hn hl hb fun j u hj => ⟨by have := hc j u hj; rwa [Nat.zero_add] at this, hf x j rfl (by have := (List.getElem?_eq_some_iff.1 hj).1; rw [gcells_len] at this; omega)⟩
end Go.Proofs.Ytfkbcflgbjncdaa
