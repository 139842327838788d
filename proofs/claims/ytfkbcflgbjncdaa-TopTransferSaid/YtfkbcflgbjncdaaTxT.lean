/- The two ends of a file's transfer, plainly: their steps, what holds of them, and that they come to their end. -/
import Derived.Test.YtfkbcflgbjncdaaTxO
namespace Go.Proofs.Ytfkbcflgbjncdaa
set_option linter.unusedVariables false
set_option linter.unusedSimpArgs false
/-- the units -/
inductive Ut where
  | md : Ut
  | pc (a b : Nat) : Ut
  | ef : Ut
  | ad : Ut
  | ae : Ut
  | nk (m : Bool) (L : List Gp) : Ut
  | fi : Ut
/-- the sending end -/
structure Sr where
  now : Nat
  ph : Nat
  st : Bool
  pos : Nat
  me : Bool
  wd : List Gp
  ack : Bool
  tm : Nat
  tr : Nat
  due : Bool
/-- the receiving end -/
structure Sk where
  now : Nat
  ph : Nat
  ended : Bool
  named : Bool
  fin : Bool
  dat : List Int
  got : List Gp
  tm : Nat
  tr : Nat
  ad : Bool
  nd : Bool
  dd : Bool
inductive NextS (n c t : Nat) (S : Sr) : Sr → Option Ut → Prop
  | fi : S.due = true → NextS n c t S { S with now := t, due := false, ph := 4 } (some .ad)
  | over : S.due = false → S.ph = 4 → NextS n c t S { S with now := t } none
  | md : S.due = false → S.ph ≠ 4 → S.me = true → NextS n c t S { S with now := t, me := false } (some .md)
  | again (r : Gp) (l N : List Gp) : S.due = false → S.ph ≠ 4 → S.me = false → S.wd = r :: l → Nrm N →
      (∀ z, mem N z ↔ mem S.wd z ∧ ¬ (r.f ≤ z ∧ z < min r.t (r.f + c))) → NextS n c t S { S with now := t, wd := N } (some (.pc r.f.toNat (min r.t (r.f + c)).toNat))
  | first : S.due = false → S.me = false → S.wd = [] → S.ph = 0 → S.st = false → NextS n c t S { S with now := t, st := true } (some .md)
  | data : S.due = false → S.me = false → S.wd = [] → S.ph = 0 → S.st = true → S.pos < n → NextS n c t S { S with now := t, pos := min (S.pos + c) n } (some (.pc S.pos (min (S.pos + c) n)))
  | eof : S.due = false → S.me = false → S.wd = [] → S.ph = 0 → S.st = true → n ≤ S.pos → NextS n c t S { S with now := t, ph := 1, tm := t, tr := 0 } (some .ef)
  | idle : S.due = false → S.me = false → S.wd = [] → S.ph ≠ 0 → S.ph ≠ 4 → (S.ph ≠ 1 ∨ S.ack = true ∨ t < S.tm + 10) → NextS n c t S { S with now := t } none
  | rep : S.due = false → S.me = false → S.wd = [] → S.ph = 1 → S.ack = false → S.tm + 10 ≤ t → NextS n c t S { S with now := t, tm := t, tr := S.tr + 1 } (some .ef)
inductive TakeS (n t : Nat) (S : Sr) : Ut → Sr → Prop
  | ae : TakeS n t S .ae { S with now := t, ack := S.ack || decide (S.ph = 1) }
  | nk1 (m : Bool) (L N : List Gp) : S.ph = 1 → Nrm N → (∀ z, mem N z ↔ mem S.wd z ∨ mem L z) → TakeS n t S (.nk m L) { S with now := t, me := S.me || m, wd := N, tm := t, tr := 0 }
  | nk2 (m : Bool) (L : List Gp) : S.ph ≠ 1 → TakeS n t S (.nk m L) { S with now := t }
  | fi1 : S.ph = 1 → TakeS n t S .fi { S with now := t, ph := 2, me := false, wd := [], due := true }
  | fi2 : S.ph = 2 → TakeS n t S .fi { S with now := t }
  | fi4 : S.ph = 4 → TakeS n t S .fi { S with now := t, due := true }
def chk (n : Nat) (K : Sk) : Sk := if K.ph = 0 ∧ K.named = true ∧ K.fin = true ∧ ¬ width K.got < n then { K with ph := 1, nd := false } else K
inductive RecK (F : List Int) (t : Nat) (K : Sk) : Ut → Sk → Prop
  | md0 : K.ph ≠ 0 → RecK F t K .md { K with now := t }
  | md1 : K.ph = 0 → K.named = true → RecK F t K .md { K with now := t }
  | md2 : K.ph = 0 → K.named = false → RecK F t K .md { K with now := t, named := true, tm := t, tr := 0 }
  | pc0 (a b : Nat) : K.ph ≠ 0 → RecK F t K (.pc a b) { K with now := t }
  | pc1 (a b : Nat) (N : List Gp) (D : List Int) : K.ph = 0 → Nrm N → (∀ z, mem N z ↔ mem K.got z ∨ ((a : Int) ≤ z ∧ z < b)) → D.length = max K.dat.length b →
      (∀ z : Nat, mem K.got z → D[z]? = K.dat[z]?) → (∀ z : Nat, a ≤ z → z < b → ¬ mem K.got z → D[z]? = F[z]?) → width K.got < width N → RecK F t K (.pc a b) { K with now := t, dat := D, got := N, tm := t, tr := 0 }
  | pc2 (a b : Nat) (N : List Gp) (D : List Int) : K.ph = 0 → Nrm N → (∀ z, mem N z ↔ mem K.got z ∨ ((a : Int) ≤ z ∧ z < b)) → D.length = max K.dat.length b →
      (∀ z : Nat, mem K.got z → D[z]? = K.dat[z]?) → (∀ z : Nat, a ≤ z → z < b → ¬ mem K.got z → D[z]? = F[z]?) → ¬ width K.got < width N → RecK F t K (.pc a b) { K with now := t, dat := D, got := N }
  | ef0 : K.ph ≠ 0 → RecK F t K .ef { K with now := t, ad := true, dd := K.dd || decide (K.ph = 2) }
  | ef1 : K.ph = 0 → K.fin = true → RecK F t K .ef { K with now := t, ad := true }
  | ef2 : K.ph = 0 → K.fin = false → RecK F t K .ef { K with now := t, fin := true, nd := true, tm := t, tr := 0, ad := true }
  | ad : K.ph = 2 → RecK F t K .ad { K with now := t, ended := true, ad := false, nd := false, dd := false }
def cls (t : Nat) (K : Sk) : Sk := if K.ph = 1 then { K with now := t, ph := 2, dd := true, tm := t, tr := 0 } else K
def tick (t : Nat) (K : Sk) : Sk := if K.tm + 10 ≤ t then { K with now := t, tr := K.tr + 1, tm := t, nd := K.nd || K.fin } else { K with now := t }
inductive NextK (n t : Nat) (K : Sk) : Sk → Option Ut → Prop
  | ack : K.ad = true → NextK n t K { K with now := t, ad := false } (some .ae)
  | fi1 : K.ad = false → K.ph = 2 → K.dd = true → NextK n t K { K with now := t, dd := false } (some .fi)
  | fi2 : K.ad = false → K.ph = 2 → K.dd = false → K.ended = false → K.tm + 10 ≤ t → NextK n t K { K with now := t, tr := K.tr + 1, tm := t } (some .fi)
  | qu2 : K.ad = false → K.ph = 2 → K.dd = false → (K.ended = true ∨ t < K.tm + 10) → NextK n t K { K with now := t } none
  | nk (N : List Gp) : K.ad = false → K.ph = 0 → (tick t K).nd = true → Nrm N → (∀ z, mem N z ↔ (0 ≤ z ∧ z < (n : Int)) ∧ ¬ mem K.got z) → NextK n t K { tick t K with nd := false } (some (.nk (!K.named) (N.take (if K.named then 16 else 15))))
  | qu0 : K.ad = false → K.ph = 0 → (tick t K).nd = false → NextK n t K (tick t K) none
/-- a set of whole chunks of the first n bytes -/
def Al (c n : Nat) (l : List Gp) : Prop := ∃ p : Nat → Bool, ∀ z : Int, mem l z ↔ 0 ≤ z ∧ z < n ∧ p (z.toNat / c) = true
theorem div_iff {c z k : Nat} (hc : 0 < c) : z / c = k ↔ c * k ≤ z ∧ z < c * k + c := by
  constructor
  · rintro rfl
    have h1 := Nat.mul_div_le z c
    have h2 := Nat.lt_mul_div_succ z hc
    rw [Nat.mul_add, Nat.mul_one] at h2
    exact ⟨h1, h2⟩
  · rintro ⟨h1, h2⟩
    apply Nat.div_eq_of_lt_le
    · rw [Nat.mul_comm]; exact h1
    · rw [Nat.add_mul, Nat.one_mul, Nat.mul_comm]; exact h2
/-- the bytes of chunk k -/
theorem chunk_iff {c n k : Nat} (hc : 0 < c) (z : Int) : (((c * k : Nat) : Int) ≤ z ∧ z < ((min (c * k + c) n : Nat) : Int)) ↔ 0 ≤ z ∧ z < n ∧ z.toNat / c = k := by
  rw [div_iff hc]
  obtain ⟨b, hb⟩ : ∃ b, b = c * k := ⟨_, rfl⟩
  rw [← hb]
  omega
theorem mul_div_c {c i : Nat} (hc : 0 < c) : c * i / c = i := by rw [Nat.mul_comm]; exact Nat.mul_div_cancel i hc
theorem al_ix {c n : Nat} {l : List Gp} (hc : 0 < c) {p : Nat → Bool} (h : ∀ z : Int, mem l z ↔ 0 ≤ z ∧ z < n ∧ p (z.toNat / c) = true) {i : Nat} (hi : c * i < n) : mem l ((c * i : Nat) : Int) ↔ p i = true := by
  rw [h]
  rw [show ((c * i : Nat) : Int).toNat = c * i by omega, mul_div_c hc]
  constructor
  · exact fun k => k.2.2
  · exact fun k => ⟨by omega, by omega, k⟩
theorem Al.inn {c n : Nat} {l : List Gp} (h : Al c n l) {z : Int} (hz : mem l z) : 0 ≤ z ∧ z < n := by
  obtain ⟨p, h⟩ := h
  have := (h z).1 hz
  omega
/-- a byte of a chunk is a member if its first byte is -/
theorem Al.at_ {c n : Nat} {l : List Gp} (hc : 0 < c) (h : Al c n l) {z : Int} (h0 : 0 ≤ z) (h1 : z < n) : mem l z ↔ mem l ((c * (z.toNat / c) : Nat) : Int) := by
  obtain ⟨p, h⟩ := h
  have := Nat.mul_div_le z.toNat c
  rw [h z, al_ix hc h (by omega)]
  exact ⟨fun k => k.2.2, fun k => ⟨h0, h1, k⟩⟩
theorem al_nil (c n : Nat) : Al c n [] := ⟨fun _ => false, fun z => by simp [mem_nil]⟩
theorem al_or {c n : Nat} {l m N : List Gp} (hl : Al c n l) (hm : Al c n m) (h : ∀ z, mem N z ↔ mem l z ∨ mem m z) : Al c n N := by
  obtain ⟨p, hp⟩ := hl
  obtain ⟨q, hq⟩ := hm
  refine ⟨fun i => p i || q i, fun z => ?_⟩
  rw [h, hp, hq, Bool.or_eq_true]
  constructor
  · rintro (k | k)
    · exact ⟨k.1, k.2.1, .inl k.2.2⟩
    · exact ⟨k.1, k.2.1, .inr k.2.2⟩
  · rintro ⟨a, b, k | k⟩
    · exact .inl ⟨a, b, k⟩
    · exact .inr ⟨a, b, k⟩
theorem al_not {c n : Nat} {l N : List Gp} (hl : Al c n l) (h : ∀ z, mem N z ↔ (0 ≤ z ∧ z < (n : Int)) ∧ ¬ mem l z) : Al c n N := by
  obtain ⟨p, hp⟩ := hl
  refine ⟨fun i => !p i, fun z => ?_⟩
  rw [h, hp]
  constructor
  · rintro ⟨⟨a, b⟩, k⟩
    refine ⟨a, b, ?_⟩
    cases hh : p (z.toNat / c) with
    | false => simp [hh]
    | true => exact absurd ⟨a, b, hh⟩ k
  · rintro ⟨a, b, k⟩
    refine ⟨⟨a, b⟩, fun k2 => ?_⟩
    simp [k2.2.2] at k
theorem al_add {c n k : Nat} {l N : List Gp} (hc : 0 < c) (hl : Al c n l) (h : ∀ z, mem N z ↔ mem l z ∨ (((c * k : Nat) : Int) ≤ z ∧ z < ((min (c * k + c) n : Nat) : Int))) : Al c n N := by
  obtain ⟨p, hp⟩ := hl
  refine ⟨fun i => p i || decide (i = k), fun z => ?_⟩
  rw [h, hp, chunk_iff hc, Bool.or_eq_true, decide_eq_true_eq]
  constructor
  · rintro (k | k)
    · exact ⟨k.1, k.2.1, .inl k.2.2⟩
    · exact ⟨k.1, k.2.1, .inr k.2.2⟩
  · rintro ⟨a, b, k | k⟩
    · exact .inl ⟨a, b, k⟩
    · exact .inr ⟨a, b, k⟩
theorem al_del {c n k : Nat} {l N : List Gp} (hc : 0 < c) (hl : Al c n l) (h : ∀ z, mem N z ↔ mem l z ∧ ¬ (((c * k : Nat) : Int) ≤ z ∧ z < ((min (c * k + c) n : Nat) : Int))) : Al c n N := by
  obtain ⟨p, hp⟩ := hl
  refine ⟨fun i => p i && !decide (i = k), fun z => ?_⟩
  rw [h, hp, chunk_iff hc, Bool.and_eq_true, Bool.not_eq_true', decide_eq_false_iff_not]
  constructor
  · rintro ⟨⟨a, b, e⟩, f⟩
    exact ⟨a, b, e, fun g => f ⟨a, b, g⟩⟩
  · rintro ⟨a, b, e, f⟩
    exact ⟨⟨a, b, e⟩, fun g => f g.2.2⟩
/-- the first range begins with a chunk, and holds all of it -/
theorem first_chunk {c n : Nat} {r : Gp} {l : List Gp} (hc : 0 < c) (hn : Nrm (r :: l)) (ha : Al c n (r :: l)) : ∃ k : Nat, r.f = ((c * k : Nat) : Int) ∧ c * k < n ∧ min r.t (r.f + c) = ((min (c * k + c) n : Nat) : Int) := by
  obtain ⟨h1, h2, h3⟩ := nrm_first hn
  have hr := hn.full r (by simp)
  have m0 := h3 r.f (Int.le_refl _) hr
  have i0 := ha.inn m0
  have i1 := ha.inn (h3 (r.t - 1) (by omega) (by omega))
  have mb := (ha.at_ hc i0.1 i0.2).1 m0
  obtain ⟨k, hk⟩ : ∃ k, k = r.f.toNat / c := ⟨_, rfl⟩
  rw [← hk] at mb
  have hb := h1 _ mb
  obtain ⟨b1, b2⟩ := (div_iff hc).1 hk.symm
  refine ⟨k, by omega, by omega, ?_⟩
  have ht : ¬ r.t < ((min (c * k + c) n : Nat) : Int) := fun hlt => by
    apply h2
    refine (ha.at_ hc (by omega) (by omega)).2 ?_
    rw [(div_iff (z := r.t.toNat) (k := k) hc).2 (by omega)]
    exact mb
  omega
theorem mem_sub {l m : List Gp} (h : ∀ x ∈ l, x ∈ m) {z : Int} (hz : mem l z) : mem m z := by
  obtain ⟨r, hr, k⟩ := hz
  exact ⟨r, h r hr, k⟩
theorem nrm_take {l : List Gp} (h : Nrm l) (j : Nat) : Nrm (l.take j) := ⟨h.apart.sublist (List.take_sublist j l), fun r hr => h.full r (List.mem_of_mem_take hr)⟩
/-- the first ranges of a list: its members up to the next range -/
theorem mem_take {l : List Gp} (h : Nrm l) {j : Nat} {r : Gp} (hj : l[j]? = some r) (z : Int) : mem (l.take j) z ↔ mem l z ∧ z < r.f := by
  have hjl : j < l.length := by
    rcases Nat.lt_or_ge j l.length with k | k
    · exact k
    · rw [List.getElem?_eq_none k] at hj; cases hj
  have hd : l.drop j = r :: l.drop (j + 1) := by
    rw [List.drop_eq_getElem_cons hjl]
    congr 1
    rw [List.getElem?_eq_getElem hjl] at hj
    injection hj
  have hs : l = l.take j ++ r :: l.drop (j + 1) := by rw [← hd, List.take_append_drop]
  have ha := h.apart
  rw [hs] at ha
  obtain ⟨a1, a2, a3⟩ := List.pairwise_append.1 ha
  obtain ⟨b1, b2⟩ := List.pairwise_cons.1 a2
  constructor
  · rintro ⟨x, hx, k1, k2⟩
    have := a3 x hx r (by simp)
    exact ⟨⟨x, List.mem_of_mem_take hx, k1, k2⟩, by omega⟩
  · rintro ⟨k, hz⟩
    rw [hs, mem_app] at k
    rcases k with k | ⟨x, hx, k1, k2⟩
    · exact k
    · rcases List.mem_cons.1 hx with rfl | hx
      · omega
      · have := b1 x hx
        have := h.full r (by rw [hs]; simp)
        omega
/-- each range of a list of chunks begins with a chunk -/
theorem range_chunk {c n : Nat} {l : List Gp} (hc : 0 < c) (hn : Nrm l) (ha : Al c n l) {j : Nat} {r : Gp} (hj : l[j]? = some r) : ∃ k : Nat, r.f = ((c * k : Nat) : Int) ∧ c * k < n := by
  have hr : r ∈ l := List.mem_of_getElem? hj
  have hf := hn.full r hr
  have m0 : mem l r.f := ⟨r, hr, Int.le_refl _, hf⟩
  have i0 := ha.inn m0
  have mb := (ha.at_ hc i0.1 i0.2).1 m0
  obtain ⟨k, hk⟩ : ∃ k, k = r.f.toNat / c := ⟨_, rfl⟩
  rw [← hk] at mb
  obtain ⟨b1, b2⟩ := (div_iff hc).1 hk.symm
  refine ⟨k, ?_, by omega⟩
  by_cases he : r.f = ((c * k : Nat) : Int)
  · exact he
  · exfalso
    have hm : mem l (r.f - 1) := by
      refine (ha.at_ hc (by omega) (by omega)).2 ?_
      rw [(div_iff (z := (r.f - 1).toNat) (k := k) hc).2 (by omega)]
      exact mb
    have ht := (mem_take hn hj (r.f - 1)).2 ⟨hm, by omega⟩
    obtain ⟨x, hx, k1, k2⟩ := ht
    have hjl : j < l.length := by
      rcases Nat.lt_or_ge j l.length with k | k
      · exact k
      · rw [List.getElem?_eq_none k] at hj; cases hj
    have hs : l = l.take j ++ l.drop j := by rw [List.take_append_drop]
    have hap := hn.apart
    rw [hs] at hap
    have := (List.pairwise_append.1 hap).2.2 x hx r (by
      rw [List.drop_eq_getElem_cons hjl]
      rw [List.getElem?_eq_getElem hjl] at hj
      injection hj with hj
      simp [hj])
    omega
theorem al_take {c n : Nat} {l : List Gp} (hc : 0 < c) (hn : Nrm l) (ha : Al c n l) (j : Nat) : Al c n (l.take j) := by
  rcases Nat.lt_or_ge j l.length with hj | hj
  · obtain ⟨k, hk, hkn⟩ := range_chunk hc hn ha (List.getElem?_eq_getElem hj)
    obtain ⟨p, hp⟩ := ha
    refine ⟨fun i => p i && decide (i < k), fun z => ?_⟩
    rw [mem_take hn (List.getElem?_eq_getElem hj), hp, hk, Bool.and_eq_true, decide_eq_true_eq]
    have hd : 0 ≤ z → (z < ((c * k : Nat) : Int) ↔ z.toNat / c < k) := fun h0 => by
      rw [Nat.div_lt_iff_lt_mul hc, Nat.mul_comm k c]
      omega
    constructor
    · rintro ⟨⟨a, b, e⟩, f⟩
      exact ⟨a, b, e, (hd a).1 f⟩
    · rintro ⟨a, b, e, f⟩
      exact ⟨⟨a, b, e⟩, (hd a).2 f⟩
  · rw [List.take_of_length_le hj]; exact ha
/-- what holds of the sending end -/
structure IS (c n T : Nat) (S : Sr) : Prop where
  now : S.now ≤ T
  ph : S.ph = 0 ∨ S.ph = 1 ∨ S.ph = 2 ∨ S.ph = 4
  nrm : Nrm S.wd
  al : Al c n S.wd
  far : 2 ≤ S.ph → S.wd = [] ∧ S.me = false
  tmr : 10 * S.tr ≤ S.tm ∧ S.tm ≤ S.now
  pos : S.pos = n ∨ (S.pos < n ∧ ∃ k, S.pos = c * k)
  due : S.due = true → 2 ≤ S.ph
  clo : S.ph = 2 → S.due = true
/-- what holds of the receiving end -/
structure IK (F : List Int) (c T : Nat) (K : Sk) : Prop where
  now : K.now ≤ T
  nrm : Nrm K.got
  al : Al c F.length K.got
  dl : K.dat.length ≤ F.length
  dat : ∀ z : Nat, mem K.got z → K.dat[z]? = F[z]?
  tmr : 10 * K.tr ≤ K.tm ∧ K.tm ≤ K.now
  nd : K.nd = true → K.fin = true
  ad : K.ad = true → K.fin = true
  ph : K.ph = 0 ∨ K.ph = 1 ∨ K.ph = 2
  all : K.ph ≠ 0 → K.named = true ∧ K.fin = true ∧ ∀ z : Int, 0 ≤ z → z < F.length → mem K.got z
  nc : K.ph = 0 → K.named = true → K.fin = true → width K.got < F.length
/-- what holds of both -/
structure XR (S : Sr) (K : Sk) : Prop where
  dis : ∀ z, mem S.wd z → ¬ mem K.got z
  me : S.me = true → K.named = false
  ef : K.fin = false → S.me = false ∧ S.wd = [] ∧ S.ack = false
  zf : S.ph = 0 → K.fin = false
  cl : 2 ≤ S.ph → K.ph = 2
  en : K.ended = true → S.ph = 4
theorem IS.mono {c n T T' : Nat} {S : Sr} (h : IS c n T S) (k : T ≤ T') : IS c n T' S := { h with now := Nat.le_trans h.now k }
theorem IK.mono {F : List Int} {c T T' : Nat} {K : Sk} (h : IK F c T K) (k : T ≤ T') : IK F c T' K := { h with now := Nat.le_trans h.now k }
/-- what holds of a unit that the sending end has sent -/
def OkS (c n : Nat) (S : Sr) (K : Sk) : Option Ut → Prop
  | some (.pc a b) => (∀ z : Int, (a : Int) ≤ z → z < b → ¬ mem S.wd z) ∧ ∃ k, a = c * k ∧ b = min (c * k + c) n ∧ c * k < n
  | some .ad => S.ph = 4 ∧ K.ph = 2
  | some .ef => S.ph = 1
  | some .md => S.me = false
  | none => True
  | _ => False
theorem half1 {c n t T : Nat} {S S1 : Sr} {K : Sk} {o : Option Ut} (hc : 0 < c) (hT : T ≤ t) (hs : IS c n T S) (hx : XR S K) (h : NextS n c t S S1 o) : IS c n t S1 ∧ XR S1 K ∧ OkS c n S1 K o := by
  have := hs.tmr
  have := hs.now
  cases h with
  | fi hd =>
    have h2 := hs.due hd
    exact ⟨⟨Nat.le_refl _, by simp, hs.nrm, hs.al, fun _ => hs.far h2, by simp only; omega, hs.pos, by simp, by simp⟩, ⟨hx.dis, hx.me, hx.ef, by simp, fun _ => hx.cl h2, fun _ => rfl⟩, rfl, hx.cl h2⟩
  | over hd hp => exact ⟨⟨Nat.le_refl _, hs.ph, hs.nrm, hs.al, hs.far, by simp only; omega, hs.pos, hs.due, hs.clo⟩, ⟨hx.dis, hx.me, hx.ef, hx.zf, hx.cl, hx.en⟩, trivial⟩
  | md hd hp hm => exact ⟨⟨Nat.le_refl _, hs.ph, hs.nrm, hs.al, fun h => ⟨(hs.far h).1, rfl⟩, by simp only; omega, hs.pos, hs.due, hs.clo⟩, ⟨hx.dis, by simp, fun h => ⟨rfl, (hx.ef h).2⟩, hx.zf, hx.cl, hx.en⟩, rfl⟩
  | again r l N hd hp hm hw hn hN =>
    have ha := hs.al
    have hr := hs.nrm
    rw [hw] at ha hr
    obtain ⟨k, k1, k2, k3⟩ := first_chunk hc hr ha
    have far : 2 ≤ S.ph → False := fun h => by
      have := (hs.far h).1
      rw [hw] at this
      cases this
    refine ⟨⟨Nat.le_refl _, hs.ph, hn, al_del (k := k) hc hs.al fun z => by rw [hN, k3, k1], fun h => (far h).elim, by simp only; omega, hs.pos, hs.due, hs.clo⟩, ⟨fun z hz => hx.dis z ((hN z).1 hz).1, hx.me, fun h => ?_, hx.zf, hx.cl, hx.en⟩, fun z z1 z2 hz => ((hN z).1 hz).2 ⟨by omega, by omega⟩, k, by omega, by omega, k2⟩
    have := (hx.ef h).2.1
    rw [hw] at this
    cases this
  | first hd hm hw hp hst => exact ⟨⟨Nat.le_refl _, hs.ph, hs.nrm, hs.al, hs.far, by simp only; omega, hs.pos, hs.due, hs.clo⟩, ⟨hx.dis, hx.me, hx.ef, hx.zf, hx.cl, hx.en⟩, hm⟩
  | data hd hm hw hp hst hn =>
    have hk : ∃ k, S.pos = c * k := by
      rcases hs.pos with h | h
      · omega
      · exact h.2
    obtain ⟨k, hk⟩ := hk
    refine ⟨⟨Nat.le_refl _, hs.ph, hs.nrm, hs.al, hs.far, by simp only; omega, ?_, hs.due, hs.clo⟩, ⟨hx.dis, hx.me, hx.ef, hx.zf, hx.cl, hx.en⟩, fun z _ _ hz => by rw [hw] at hz; exact mem_nil z hz, k, hk, by rw [hk], by omega⟩
    rcases Nat.lt_or_ge (S.pos + c) n with h | h
    · exact .inr ⟨by simp only; omega, k + 1, by rw [Nat.mul_add, Nat.mul_one, ← hk]; simp only; omega⟩
    · exact .inl (by simp only; omega)
  | eof hd hm hw hp hst hn => exact ⟨⟨Nat.le_refl _, by simp, hs.nrm, hs.al, by simp, by simp, hs.pos, by simp [hd], by simp⟩, ⟨hx.dis, hx.me, hx.ef, by simp, by simp, fun h => by have := hx.en h; omega⟩, rfl⟩
  | idle hd hm hw hp hp4 ht => exact ⟨⟨Nat.le_refl _, hs.ph, hs.nrm, hs.al, hs.far, by simp only; omega, hs.pos, hs.due, hs.clo⟩, ⟨hx.dis, hx.me, hx.ef, hx.zf, hx.cl, hx.en⟩, trivial⟩
  | rep hd hm hw hp ha ht => exact ⟨⟨Nat.le_refl _, hs.ph, hs.nrm, hs.al, hs.far, by simp only; omega, hs.pos, hs.due, hs.clo⟩, ⟨hx.dis, hx.me, hx.ef, hx.zf, hx.cl, hx.en⟩, hp⟩
/-- the file is whole -/
theorem dat_eq {F : List Int} {c T : Nat} {K : Sk} (h : IK F c T K) (ha : ∀ z : Int, 0 ≤ z → z < F.length → mem K.got z) : K.dat = F := by
  apply List.ext_getElem?
  intro i
  rcases Nat.lt_or_ge i F.length with hi | hi
  · exact h.dat i (ha i (by omega) (by omega))
  · rw [List.getElem?_eq_none hi, List.getElem?_eq_none (Nat.le_trans h.dl hi)]
theorem width_all {c n : Nat} {l : List Gp} (hn : Nrm l) (ha : Al c n l) : ¬ width l < n → ∀ z : Int, 0 ≤ z → z < n → mem l z := by
  intro hw z h0 h1
  have := width_le (a := 0) (N := n) hn (fun m hm => ha.inn hm) (by omega)
  exact this.2 (by omega) z h0 h1
/-- taking a unit and checking -/
theorem half2 {F : List Int} {c t T : Nat} {S : Sr} {K K1 : Sk} {u : Ut} (hc : 0 < c) (hT : T ≤ t) (hk : IK F c T K) (hx : XR S K) (hp : K.ph = 0 ∨ K.ph = 2) (ho : OkS c F.length S K (some u)) (h : RecK F t K u K1) : IK F c t (chk F.length K1) ∧ XR S (chk F.length K1) := by
  have := hk.tmr
  have := hk.now
  -- what holds before the check
  have main : (Nrm K1.got ∧ Al c F.length K1.got ∧ K1.dat.length ≤ F.length ∧ (∀ z : Nat, mem K1.got z → K1.dat[z]? = F[z]?) ∧ (10 * K1.tr ≤ K1.tm ∧ K1.tm ≤ t) ∧ (K1.nd = true → K1.fin = true) ∧ (K1.ad = true → K1.fin = true) ∧ K1.ph = K.ph ∧ (K1.ph ≠ 0 → K1.named = true ∧ K1.fin = true ∧ ∀ z : Int, 0 ≤ z → z < F.length → mem K1.got z)) ∧ XR S K1 ∧ K1.now = t := by
    cases h with
    | md0 h0 => exact ⟨⟨hk.nrm, hk.al, hk.dl, hk.dat, by simp only; omega, hk.nd, hk.ad, rfl, hk.all⟩, ⟨hx.dis, hx.me, hx.ef, hx.zf, hx.cl, hx.en⟩, rfl⟩
    | md1 h0 h1 => exact ⟨⟨hk.nrm, hk.al, hk.dl, hk.dat, by simp only; omega, hk.nd, hk.ad, rfl, hk.all⟩, ⟨hx.dis, hx.me, hx.ef, hx.zf, hx.cl, hx.en⟩, rfl⟩
    | md2 h0 h1 => exact ⟨⟨hk.nrm, hk.al, hk.dl, hk.dat, by simp, hk.nd, hk.ad, rfl, fun h => absurd h0 h⟩, ⟨hx.dis, fun h => (by rw [show S.me = false from ho] at h; cases h), hx.ef, hx.zf, hx.cl, hx.en⟩, rfl⟩
    | pc0 a b h0 => exact ⟨⟨hk.nrm, hk.al, hk.dl, hk.dat, by simp only; omega, hk.nd, hk.ad, rfl, hk.all⟩, ⟨hx.dis, hx.me, hx.ef, hx.zf, hx.cl, hx.en⟩, rfl⟩
    | pc1 a b N D h0 hN hm hD h2 h3 h4 =>
      obtain ⟨hf, k, k1, k2, k3⟩ : (∀ z : Int, (a : Int) ≤ z → z < b → ¬ mem S.wd z) ∧ ∃ k, a = c * k ∧ b = min (c * k + c) F.length ∧ c * k < F.length := ho
      have := hk.dl
      refine ⟨⟨hN, al_add (k := k) hc hk.al fun z => by rw [hm, k1, k2], by simp only; omega, fun z hz => ?_, by simp, hk.nd, hk.ad, rfl, fun h => absurd h0 h⟩, ⟨fun z hz hz2 => ?_, hx.me, hx.ef, hx.zf, hx.cl, hx.en⟩, rfl⟩
      · by_cases hg : mem K.got z
        · exact (h2 z hg).trans (hk.dat z hg)
        · rcases (hm z).1 hz with g | g
          · exact absurd g hg
          · exact h3 z (by omega) (by omega) hg
      · rcases (hm z).1 hz2 with g | g
        · exact hx.dis z hz g
        · exact hf z g.1 g.2 hz
    | pc2 a b N D h0 hN hm hD h2 h3 h4 =>
      obtain ⟨hf, k, k1, k2, k3⟩ : (∀ z : Int, (a : Int) ≤ z → z < b → ¬ mem S.wd z) ∧ ∃ k, a = c * k ∧ b = min (c * k + c) F.length ∧ c * k < F.length := ho
      have := hk.dl
      refine ⟨⟨hN, al_add (k := k) hc hk.al fun z => by rw [hm, k1, k2], by simp only; omega, fun z hz => ?_, by simp only; omega, hk.nd, hk.ad, rfl, fun h => absurd h0 h⟩, ⟨fun z hz hz2 => ?_, hx.me, hx.ef, hx.zf, hx.cl, hx.en⟩, rfl⟩
      · by_cases hg : mem K.got z
        · exact (h2 z hg).trans (hk.dat z hg)
        · rcases (hm z).1 hz with g | g
          · exact absurd g hg
          · exact h3 z (by omega) (by omega) hg
      · rcases (hm z).1 hz2 with g | g
        · exact hx.dis z hz g
        · exact hf z g.1 g.2 hz
    | ef0 h0 => exact ⟨⟨hk.nrm, hk.al, hk.dl, hk.dat, by simp only; omega, hk.nd, fun _ => (hk.all h0).2.1, rfl, hk.all⟩, ⟨hx.dis, hx.me, hx.ef, hx.zf, hx.cl, hx.en⟩, rfl⟩
    | ef1 h0 h1 => exact ⟨⟨hk.nrm, hk.al, hk.dl, hk.dat, by simp only; omega, hk.nd, fun _ => h1, rfl, hk.all⟩, ⟨hx.dis, hx.me, hx.ef, hx.zf, hx.cl, hx.en⟩, rfl⟩
    | ef2 h0 h1 => exact ⟨⟨hk.nrm, hk.al, hk.dl, hk.dat, by simp, fun _ => rfl, fun _ => rfl, rfl, fun h => absurd h0 h⟩, ⟨hx.dis, hx.me, by simp, fun h => by have : S.ph = 1 := ho; omega, hx.cl, hx.en⟩, rfl⟩
    | ad h0 =>
      have ho : S.ph = 4 ∧ K.ph = 2 := ho
      exact ⟨⟨hk.nrm, hk.al, hk.dl, hk.dat, by simp only; omega, by simp, by simp, rfl, hk.all⟩, ⟨hx.dis, hx.me, hx.ef, hx.zf, hx.cl, fun _ => ho.1⟩, rfl⟩
  obtain ⟨⟨a1, a2, a3, a4, a5, a6, a7, a8, a9⟩, y, a10⟩ := main
  unfold chk
  split
  · rename_i h
    exact ⟨⟨by simp only; omega, a1, a2, a3, a4, by simp only; omega, by simp, a7, by simp, fun _ => ⟨h.2.1, h.2.2.1, width_all a1 a2 h.2.2.2⟩, by simp⟩, ⟨y.dis, y.me, y.ef, y.zf, fun k => by have := y.cl k; omega, y.en⟩⟩
  · rename_i h
    exact ⟨⟨by omega, a1, a2, a3, a4, by omega, a6, a7, by omega, a9, fun k0 k1 k2 => Classical.byContradiction fun k3 => h ⟨k0, k1, k2, k3⟩⟩, y⟩
/-- the file is stored, where it is whole -/
theorem half3 {F : List Int} {c t T : Nat} {S : Sr} {K : Sk} (hT : T ≤ t) (hk : IK F c T K) (hx : XR S K) : IK F c t (cls t K) ∧ XR S (cls t K) ∧ ((cls t K).ph = 0 ∨ (cls t K).ph = 2) := by
  unfold cls
  split
  · rename_i h
    exact ⟨⟨Nat.le_refl _, hk.nrm, hk.al, hk.dl, hk.dat, by simp, hk.nd, hk.ad, by simp, fun _ => hk.all (by omega), by simp⟩, ⟨hx.dis, hx.me, hx.ef, hx.zf, fun _ => rfl, hx.en⟩, .inr rfl⟩
  · rename_i h
    have := hk.ph
    exact ⟨hk.mono hT, hx, by omega⟩
/-- what holds of a unit that the receiving end has sent -/
def OkK (c n : Nat) (S : Sr) (K : Sk) : Option Ut → Prop
  | some .ae => K.fin = true
  | some (.nk m L) => Nrm L ∧ Al c n L ∧ (∀ z, mem L z → ¬ mem K.got z) ∧ (m = true → K.named = false) ∧ K.fin = true ∧ K.ph = 0 ∧ 1 ≤ L.length + m.toNat ∧ L.length + m.toNat ≤ 16
  | some .fi => K.ph = 2
  | none => True
  | _ => False
theorem tick_x {F : List Int} {c t T : Nat} {S : Sr} {K : Sk} (hT : T ≤ t) (hk : IK F c T K) (hx : XR S K) : IK F c t (tick t K) ∧ XR S (tick t K) ∧ (tick t K).ad = K.ad ∧ (tick t K).ph = K.ph ∧ (tick t K).got = K.got ∧ (tick t K).named = K.named ∧ (tick t K).fin = K.fin := by
  have := hk.tmr
  have := hk.now
  unfold tick
  split
  · exact ⟨⟨Nat.le_refl _, hk.nrm, hk.al, hk.dl, hk.dat, by simp only; omega, fun h => by rcases Bool.or_eq_true _ _ ▸ h with h | h; exact hk.nd h; exact h, hk.ad, hk.ph, hk.all, hk.nc⟩, ⟨hx.dis, hx.me, hx.ef, hx.zf, hx.cl, hx.en⟩, rfl, rfl, rfl, rfl, rfl⟩
  · exact ⟨⟨Nat.le_refl _, hk.nrm, hk.al, hk.dl, hk.dat, by simp only; omega, hk.nd, hk.ad, hk.ph, hk.all, hk.nc⟩, ⟨hx.dis, hx.me, hx.ef, hx.zf, hx.cl, hx.en⟩, rfl, rfl, rfl, rfl, rfl⟩
theorem half4 {F : List Int} {c t T : Nat} {S : Sr} {K K1 : Sk} {o : Option Ut} (hc : 0 < c) (hT : T ≤ t) (hk : IK F c T K) (hx : XR S K) (h : NextK F.length t K K1 o) : IK F c t K1 ∧ XR S K1 ∧ OkK c F.length S K1 o ∧ K1.ph = K.ph ∧ K1.ad = false := by
  have := hk.tmr
  have := hk.now
  cases h with
  | ack ha => exact ⟨⟨Nat.le_refl _, hk.nrm, hk.al, hk.dl, hk.dat, by simp only; omega, hk.nd, by simp, hk.ph, hk.all, hk.nc⟩, ⟨hx.dis, hx.me, hx.ef, hx.zf, hx.cl, hx.en⟩, hk.ad ha, rfl, rfl⟩
  | fi1 ha hp hd => exact ⟨⟨Nat.le_refl _, hk.nrm, hk.al, hk.dl, hk.dat, by simp only; omega, hk.nd, hk.ad, hk.ph, hk.all, hk.nc⟩, ⟨hx.dis, hx.me, hx.ef, hx.zf, hx.cl, hx.en⟩, hp, rfl, ha⟩
  | fi2 ha hp hd he ht => exact ⟨⟨Nat.le_refl _, hk.nrm, hk.al, hk.dl, hk.dat, by simp only; omega, hk.nd, hk.ad, hk.ph, hk.all, hk.nc⟩, ⟨hx.dis, hx.me, hx.ef, hx.zf, hx.cl, hx.en⟩, hp, rfl, ha⟩
  | qu2 ha hp hd he => exact ⟨⟨Nat.le_refl _, hk.nrm, hk.al, hk.dl, hk.dat, by simp only; omega, hk.nd, hk.ad, hk.ph, hk.all, hk.nc⟩, ⟨hx.dis, hx.me, hx.ef, hx.zf, hx.cl, hx.en⟩, trivial, rfl, ha⟩
  | nk N ha hp hn hN hm =>
    obtain ⟨i1, x1, e1, e2, e3, e4, e5⟩ := tick_x hT hk hx
    refine ⟨⟨i1.now, i1.nrm, i1.al, i1.dl, i1.dat, i1.tmr, by simp, i1.ad, i1.ph, i1.all, i1.nc⟩, ⟨x1.dis, x1.me, x1.ef, x1.zf, x1.cl, x1.en⟩, ?_, e2, by simp only; rw [e1, ha]⟩
    have haN := al_not hk.al hm
    refine ⟨nrm_take hN _, al_take hc hN haN _, fun z hz => ?_, fun h => ?_, i1.nd hn, by simp only; rw [e2, hp], ?_⟩
    · simp only
      rw [e3]
      exact ((hm z).1 (mem_sub (fun x hx => List.mem_of_mem_take hx) hz)).2
    · simp only
      rw [e4]
      simpa using h
    · rw [List.length_take]
      cases hnm : K.named with
      | false => simp only [Bool.not_false, Bool.toNat_true]; simp; omega
      | true =>
        simp only [Bool.not_true, Bool.toNat_false, if_true, Nat.add_zero]
        have hw := hk.nc hp hnm (e5 ▸ i1.nd hn)
        have : N.length ≠ 0 := fun h0 => by
          have hN0 : N = [] := List.eq_nil_of_length_eq_zero h0
          rw [hN0] at hm
          have hall : ∀ z : Int, 0 ≤ z → z < (F.length : Int) → mem K.got z := fun z z0 z1 => Classical.byContradiction fun hz => mem_nil z ((hm z).2 ⟨⟨z0, z1⟩, hz⟩)
          have h1 := width_cnt hk.nrm (N := F.length) fun z hz => hk.al.inn hz
          have h2 : cnt F.length (fun i => decide (mem K.got (i : Int))) = cnt F.length (fun i => decide (0 ≤ i ∧ i < F.length)) := cnt_eq fun i hi => by simp [hi, hall i (by omega) (by omega)]
          rw [h2, cnt_seg _ _ _ (by omega)] at h1
          omega
        omega
  | qu0 ha hp hn =>
    obtain ⟨i1, x1, e1, e2, e3, e4, e5⟩ := tick_x hT hk hx
    exact ⟨i1, x1, trivial, e2, by rw [e1, ha]⟩
theorem half5 {F : List Int} {c t T : Nat} {S S1 : Sr} {K : Sk} {u : Ut} (hT : T ≤ t) (hs : IS c F.length T S) (hx : XR S K) (ho : OkK c F.length S K (some u)) (h : TakeS F.length t S u S1) : IS c F.length t S1 ∧ XR S1 K := by
  have := hs.tmr
  have := hs.now
  cases h with
  | ae =>
    have hf : K.fin = true := ho
    exact ⟨⟨Nat.le_refl _, hs.ph, hs.nrm, hs.al, hs.far, by simp only; omega, hs.pos, hs.due, hs.clo⟩, ⟨hx.dis, hx.me, fun h => (by rw [hf] at h; cases h), hx.zf, hx.cl, hx.en⟩⟩
  | nk1 m L N hp hN hm =>
    obtain ⟨o1, o2, o3, o4, o5, o6, o7⟩ : Nrm L ∧ Al c F.length L ∧ (∀ z, mem L z → ¬ mem K.got z) ∧ (m = true → K.named = false) ∧ K.fin = true ∧ K.ph = 0 ∧ _ := ho
    refine ⟨⟨Nat.le_refl _, hs.ph, hN, al_or hs.al o2 hm, fun h => ?_, by simp, hs.pos, hs.due, hs.clo⟩, ⟨fun z hz => ?_, fun h => ?_, fun h => (by rw [o5] at h; cases h), hx.zf, hx.cl, hx.en⟩⟩
    · simp only at h; omega
    · rcases (hm z).1 hz with g | g
      · exact hx.dis z g
      · exact o3 z g
    · rcases Bool.or_eq_true _ _ ▸ h with h | h
      · exact hx.me h
      · exact o4 h
  | nk2 m L hp => exact ⟨⟨Nat.le_refl _, hs.ph, hs.nrm, hs.al, hs.far, by simp only; omega, hs.pos, hs.due, hs.clo⟩, ⟨hx.dis, hx.me, hx.ef, hx.zf, hx.cl, hx.en⟩⟩
  | fi1 hp =>
    have hk : K.ph = 2 := ho
    exact ⟨⟨Nat.le_refl _, by simp, nrm_nil, al_nil _ _, fun _ => ⟨rfl, rfl⟩, by simp only; omega, hs.pos, by simp, by simp⟩, ⟨fun z hz => absurd hz (mem_nil z), by simp, fun h => ⟨rfl, rfl, (hx.ef h).2.2⟩, by simp, fun _ => hk, fun h => by have := hx.en h; omega⟩⟩
  | fi2 hp => exact ⟨⟨Nat.le_refl _, hs.ph, hs.nrm, hs.al, hs.far, by simp only; omega, hs.pos, hs.due, hs.clo⟩, ⟨hx.dis, hx.me, hx.ef, hx.zf, hx.cl, hx.en⟩⟩
  | fi4 hp => exact ⟨⟨Nat.le_refl _, hs.ph, hs.nrm, hs.al, hs.far, by simp only; omega, hs.pos, fun _ => by simp only; omega, by simp⟩, ⟨hx.dis, hx.me, hx.ef, hx.zf, hx.cl, hx.en⟩⟩
/-- the unit is lost, or it is taken -/
def Got1 (F : List Int) (t : Nat) (up : Bool) (K : Sk) (o : Option Ut) (K1 : Sk) : Prop :=
  (K1 = K ∧ (o = none ∨ up = true)) ∨ ∃ u K0, o = some u ∧ up = false ∧ RecK F t K u K0 ∧ K1 = chk F.length K0
def Got2 (n t : Nat) (dn : Bool) (S : Sr) (o : Option Ut) (S1 : Sr) : Prop :=
  (S1 = S ∧ (o = none ∨ dn = true)) ∨ ∃ u, o = some u ∧ dn = false ∧ TakeS n t S u S1
/-- one round -/
def Rnd (F : List Int) (c t : Nat) (up dn : Bool) (S : Sr) (K : Sk) (S' : Sr) (K' : Sk) : Prop :=
  ∃ S1 o K1 o', NextS F.length c t S S1 o ∧ Got1 F t up K o K1 ∧ NextK F.length t (cls t K1) K' o' ∧ Got2 F.length t dn S1 o' S'
/-- what holds at the start of a round (T: the time of the last one) -/
structure Inv (F : List Int) (c T : Nat) (S : Sr) (K : Sk) : Prop where
  s : IS c F.length T S
  k : IK F c T K
  x : XR S K
  ph : K.ph = 0 ∨ K.ph = 2
  ad : K.ad = false
theorem got1_x {F : List Int} {c t T : Nat} {up : Bool} {S S1 : Sr} {K K1 : Sk} {o : Option Ut} (hc : 0 < c) (hT : T ≤ t) (h : Inv F c T S K) (hn : NextS F.length c t S S1 o) (hg : Got1 F t up K o K1) : IS c F.length t S1 ∧ IK F c t K1 ∧ XR S1 K1 := by
  obtain ⟨a, b, d⟩ := half1 hc hT h.s h.x hn
  rcases hg with ⟨rfl, _⟩ | ⟨u, K0, rfl, _, hr, rfl⟩
  · exact ⟨a, h.k.mono hT, b⟩
  · obtain ⟨e, f⟩ := half2 hc hT h.k b h.ph d hr
    exact ⟨a, e, f⟩
theorem rnd_inv {F : List Int} {c t T : Nat} {up dn : Bool} {S S' : Sr} {K K' : Sk} (hc : 0 < c) (hT : T ≤ t) (h : Inv F c T S K) (hr : Rnd F c t up dn S K S' K') : Inv F c t S' K' := by
  obtain ⟨S1, o, K1, o', h1, h2, h3, h4⟩ := hr
  obtain ⟨a1, a2, a3⟩ := got1_x hc hT h h1 h2
  obtain ⟨b1, b2, b3⟩ := half3 (Nat.le_refl t) a2 a3
  obtain ⟨d1, d2, d3, d4, d5⟩ := half4 hc (Nat.le_refl t) b1 b2 h3
  rcases h4 with ⟨rfl, _⟩ | ⟨u, rfl, _, ht⟩
  · exact ⟨a1, d1, d2, by rw [d4]; exact b3, d5⟩
  · obtain ⟨e1, e2⟩ := half5 (Nat.le_refl t) a1 d2 d3 ht
    exact ⟨e1, d1, e2, by rw [d4]; exact b3, d5⟩
/-- chunks that are lacking -/
def mis (c n : Nat) (K : Sk) (i : Nat) : Bool := decide (c * i < n) && !decide (mem K.got ((c * i : Nat) : Int))
def lack (c n : Nat) (K : Sk) : Nat := (if K.named then 0 else 1) + cnt 38 (mis c n K)
/-- chunks that are lacking and not asked for -/
def unas (c n : Nat) (S : Sr) (K : Sk) : Nat := (if K.named || S.me then 0 else 1) + cnt 38 fun i => mis c n K i && !decide (mem S.wd ((c * i : Nat) : Int))
def gg (D : Nat) : Nat := if D = 0 then 0 else 6 * (D + 1)
def rest (t : Nat) (soon : Bool) (tm : Nat) : Nat := if soon then 1 else max 1 (tm + 11 - t)
def pot (c n t : Nat) (S : Sr) (K : Sk) : Nat :=
  if K.ph = 0 then lack c n K + gg (unas c n S K) + (if S.me = false ∧ S.wd = [] then rest t K.nd K.tm + (if S.ack then 0 else 1) + 1 else 13)
  else if K.ended then 0 else if S.due then 1 else 1 + rest t K.dd K.tm + (if S.ack = true ∨ S.ph ≠ 1 then 0 else 1)
theorem gg_mono {a b : Nat} (h : a ≤ b) : gg a ≤ gg b := by unfold gg; split <;> split <;> omega
theorem rest_le {t tm : Nat} {s : Bool} (h : tm + 1 ≤ t) : rest t s tm ≤ 10 := by unfold rest; split <;> omega
theorem rest_ge (t tm : Nat) (s : Bool) : 1 ≤ rest t s tm := by unfold rest; split <;> omega
theorem lack_le (c n : Nat) (K : Sk) : lack c n K ≤ 39 := by
  have := cnt_le 38 (mis c n K)
  unfold lack; split <;> omega
theorem unas_le (c n : Nat) (S : Sr) (K : Sk) : unas c n S K ≤ 39 := by
  have := cnt_le 38 (fun i => mis c n K i && !decide (mem S.wd ((c * i : Nat) : Int)))
  unfold unas; split <;> omega
theorem pot0_le {c n t : Nat} {S : Sr} {K : Sk} (h : K.tm + 1 ≤ t) (hp : K.ph = 0) : pot c n t S K ≤ lack c n K + gg (unas c n S K) + 13 := by
  have := rest_le (s := K.nd) h
  unfold pot
  rw [if_pos hp]
  repeat' split
  all_goals omega
theorem pot2_le {c n t : Nat} {S : Sr} {K : Sk} (h : K.tm + 1 ≤ t) (hp : K.ph ≠ 0) : pot c n t S K ≤ 12 := by
  have := rest_le (s := K.dd) h
  unfold pot
  rw [if_neg hp]
  split
  · omega
  · split
    · omega
    · split <;> omega
theorem pot_le {c n t : Nat} {S : Sr} {K : Sk} (h : K.tm + 1 ≤ t) : pot c n t S K ≤ 292 := by
  by_cases hp : K.ph = 0
  · have := pot0_le (c := c) (n := n) (S := S) h hp
    have := lack_le c n K
    have h2 := gg_mono (unas_le c n S K)
    have h3 : gg 39 = 240 := rfl
    omega
  · have := pot2_le (c := c) (n := n) (S := S) h hp
    omega
theorem mis_at {c n : Nat} {K : Sk} {i : Nat} : mis c n K i = true ↔ c * i < n ∧ ¬ mem K.got ((c * i : Nat) : Int) := by
  unfold mis; simp
theorem chunk38 {c n i : Nat} (hc : 8 ≤ c) (hn : n ≤ 300) (hi : c * i < n) : i < 38 := by
  rcases Nat.lt_or_ge i 38 with h | h
  · exact h
  · have h1 := Nat.mul_le_mul hc h
    omega
/-- fewer lacking: the numbers fall -/
theorem lack_eq {c n : Nat} {K K' : Sk} (h1 : K'.named = K.named) (h2 : K'.got = K.got) : lack c n K' = lack c n K := by
  unfold lack mis; rw [h1, h2]
theorem unas_eq {c n : Nat} {S S' : Sr} {K K' : Sk} (h1 : K'.named = K.named) (h2 : K'.got = K.got) (h3 : S'.me = S.me) (h4 : S'.wd = S.wd) : unas c n S' K' = unas c n S K := by
  unfold unas mis; rw [h1, h2, h3, h4]
theorem unas_asked {c n : Nat} {S S' : Sr} {K K' : Sk} {L : List Gp} (h1 : K'.named = K.named) (h2 : K'.got = K.got) (h3 : S'.me = (S.me || !K.named)) (h4 : ∀ z, mem S'.wd z ↔ mem S.wd z ∨ mem L z) : unas c n S' K' ≤ cnt 38 (fun i => mis c n K i && !decide (mem S'.wd ((c * i : Nat) : Int))) ∧ unas c n S' K' ≤ unas c n S K := by
  have e : ∀ i, mis c n K' i = mis c n K i := fun i => by unfold mis; rw [h2]
  have h5 : unas c n S' K' = cnt 38 (fun i => mis c n K i && !decide (mem S'.wd ((c * i : Nat) : Int))) := by
    unfold unas
    rw [h1, h3, cnt_eq (q := fun i => mis c n K i && !decide (mem S'.wd ((c * i : Nat) : Int))) fun i _ => by rw [e]]
    cases K.named <;> cases S.me <;> simp
  refine ⟨Nat.le_of_eq h5, ?_⟩
  rw [h5]
  have := cnt_mono (n := 38) (p := fun i => mis c n K i && !decide (mem S'.wd ((c * i : Nat) : Int))) (q := fun i => mis c n K i && !decide (mem S.wd ((c * i : Nat) : Int))) fun i _ hp => by
    simp only [Bool.and_eq_true, Bool.not_eq_true', decide_eq_false_iff_not] at hp ⊢
    exact ⟨hp.1, fun k => hp.2 ((h4 _).2 (.inl k))⟩
  unfold unas
  split <;> omega
/-- a Nak asks for all that is lacking, or for two chunks at least -/
theorem unas_nak {c n : Nat} {S S' : Sr} {K K' : Sk} {N : List Gp} (hc : 8 ≤ c) (hn : n ≤ 300) (hN : Nrm N) (ha : Al c n N) (hm : ∀ z, mem N z ↔ (0 ≤ z ∧ z < (n : Int)) ∧ ¬ mem K.got z) (hlen : 1 ≤ (N.take (if K.named then 16 else 15)).length + (!K.named).toNat) (h1 : K'.named = K.named) (h2 : K'.got = K.got) (h0 : S.me = false) (hw : S.wd = []) (h3 : S'.me = (S.me || !K.named)) (h4 : ∀ z, mem S'.wd z ↔ mem S.wd z ∨ mem (N.take (if K.named then 16 else 15)) z) : gg (unas c n S' K') + 12 ≤ gg (unas c n S K) := by
  obtain ⟨j, hj⟩ : ∃ j, j = (if K.named then 16 else 15) := ⟨_, rfl⟩
  rw [← hj] at hlen h4
  have hj2 : 15 ≤ j := by rw [hj]; split <;> omega
  obtain ⟨b1, _⟩ := unas_asked (c := c) (n := n) (S := S) (K := K) h1 h2 h3 h4
  have b0 : unas c n S K = (if K.named then 0 else 1) + cnt 38 (mis c n K) := by
    unfold unas
    rw [h0, Bool.or_false, cnt_eq (q := mis c n K) fun i _ => by simp [hw, mem_nil]]
  have low : ∀ i, i < 38 → (mis c n K i && !decide (mem S'.wd ((c * i : Nat) : Int))) = true → mis c n K i = true := fun i _ h => by
    simp only [Bool.and_eq_true] at h
    exact h.1
  have first : ∀ (k : Nat) (r : Gp), N[k]? = some r → k < j → ∃ i : Nat, r.f = ((c * i : Nat) : Int) ∧ i < 38 ∧ mis c n K i = true ∧ (mis c n K i && !decide (mem S'.wd ((c * i : Nat) : Int))) = false := fun k r hk hkj => by
    obtain ⟨i, hi, hin⟩ := range_chunk (by omega) hN ha hk
    have hr : r ∈ N := List.mem_of_getElem? hk
    have hf := hN.full r hr
    have m1 : mem N ((c * i : Nat) : Int) := ⟨r, hr, by omega, by omega⟩
    have m2 : mem (N.take j) ((c * i : Nat) : Int) := ⟨r, List.mem_of_getElem? (by rw [List.getElem?_take, if_pos hkj]; exact hk), by omega, by omega⟩
    refine ⟨i, hi, chunk38 hc hn hin, mis_at.2 ⟨hin, ((hm _).1 m1).2⟩, ?_⟩
    rw [decide_eq_true ((h4 _).2 (.inr m2) : mem S'.wd ((c * i : Nat) : Int))]
    simp
  rcases Nat.lt_or_ge j N.length with hl | hl
  · obtain ⟨i0, e0, f0, g0, q0⟩ := first 0 N[0] (List.getElem?_eq_getElem (by omega)) (by omega)
    obtain ⟨i1, e1, f1, g1, q1⟩ := first 1 N[1] (List.getElem?_eq_getElem (by omega)) (by omega)
    have hap : N[0].t < N[1].f := by
      have := List.pairwise_iff_getElem.1 hN.apart 0 1 (by omega) (by omega) (by omega)
      exact this
    have hfu := hN.full N[0] (List.getElem_mem _)
    have hii : i0 < i1 := by
      rcases Nat.lt_or_ge i0 i1 with h | h
      · exact h
      · have := Nat.mul_le_mul_left c h
        omega
    have := cnt_lt2 (n := 38) low f1 hii q1 g1 q0 g0
    unfold gg
    split <;> split <;> omega
  · have hz : cnt 38 (fun i => mis c n K i && !decide (mem S'.wd ((c * i : Nat) : Int))) = 0 := by
      rw [cnt_eq (q := fun i => decide (0 ≤ i ∧ i < 0)) fun i _ => ?_, cnt_seg _ _ _ (Nat.le_refl _)]
      · omega
      · simp only [Nat.not_lt_zero, and_false, decide_false]
        cases hmi : mis c n K i with
        | false => rfl
        | true =>
          obtain ⟨k1, k2⟩ := mis_at.1 hmi
          have : mem S'.wd ((c * i : Nat) : Int) := (h4 _).2 (.inr (by rw [List.take_of_length_le hl]; exact (hm _).2 ⟨⟨by omega, by omega⟩, k2⟩))
          rw [decide_eq_true this]
          rfl
    have hu : 1 ≤ unas c n S K := by
      rw [b0]
      cases hnm : K.named with
      | false => simp
      | true =>
        rw [hnm] at hlen
        simp only [Bool.not_true, Bool.toNat_false, Nat.add_zero, List.length_take] at hlen
        obtain ⟨i0, e0, f0, g0, q0⟩ := first 0 N[0] (List.getElem?_eq_getElem (by omega)) (by omega)
        have := cnt_lt (n := 38) low f0 q0 g0
        simp only [if_true]; omega
    unfold gg
    split <;> split <;> omega
theorem cls_same {t : Nat} {K : Sk} (h : K.ph ≠ 1) : cls t K = K := if_neg h
theorem next_ended {n t : Nat} {K K' : Sk} {o : Option Ut} (h : NextK n t K K' o) : K'.ended = K.ended := by
  cases h <;> first | rfl | (unfold tick; split <;> rfl)
theorem rec_ended {F : List Int} {t : Nat} {K K' : Sk} {u : Ut} (h : RecK F t K u K') (he : K.ended = true) : K'.ended = true := by
  cases h <;> first | exact he | rfl
theorem chk_ended {n : Nat} {K : Sk} : (chk n K).ended = K.ended := by unfold chk; split <;> rfl
theorem cls_ended {t : Nat} {K : Sk} : (cls t K).ended = K.ended := by unfold cls; split <;> rfl
theorem rec_ph {F : List Int} {t : Nat} {K K' : Sk} {u : Ut} (h : RecK F t K u K') : K'.ph = K.ph := by cases h <;> rfl
theorem chk_ph {n : Nat} {K : Sk} (h : K.ph = 2) : chk n K = K := if_neg fun k => by omega
/-- what was closed stays closed -/
theorem got1_ph {F : List Int} {t : Nat} {up : Bool} {K K1 : Sk} {o : Option Ut} (hg : Got1 F t up K o K1) (h : K.ph = 2) : K1.ph = 2 ∧ (K.ended = true → K1.ended = true) := by
  rcases hg with ⟨rfl, _⟩ | ⟨u, K0, rfl, _, hr, rfl⟩
  · exact ⟨h, id⟩
  · have := rec_ph hr
    rw [chk_ph (by omega)]
    exact ⟨by omega, rec_ended hr⟩
theorem next_ph {n t : Nat} {K K' : Sk} {o : Option Ut} (h : NextK n t K K' o) : K'.ph = K.ph := by
  cases h <;> first | rfl | (unfold tick; split <;> rfl)
/-- once nothing is lost: the closed end comes to its end -/
theorem pot_closed {F : List Int} {c t : Nat} {S S' : Sr} {K K' : Sk} (ht : 1 ≤ t) (h : Inv F c (t - 1) S K) (hp : K.ph = 2) (hr : Rnd F c t false false S K S' K') : pot c F.length (t + 1) S' K' ≤ pot c F.length t S K - 1 := by
  obtain ⟨hnm, hfi, hal⟩ := h.k.all (by omega)
  have hme : S.me = false := by
    cases hm : S.me with
    | false => rfl
    | true => have := h.x.me hm; rw [hnm] at this; cases this
  have hwd : S.wd = [] := nrm_empty h.s.nrm fun z hz => by
    have := h.s.al.inn hz
    exact h.x.dis z hz (hal z this.1 this.2)
  have hS0 : S.ph ≠ 0 := fun h0 => by have := h.x.zf h0; rw [hfi] at this; cases this
  have hnow := h.k.now
  have htm := h.k.tmr
  have had := h.ad
  obtain ⟨S1, o, K1, o', h1, h2, h3, h4⟩ := hr
  obtain ⟨q1, q2⟩ := got1_ph h2 hp
  have q3 : (cls t K1).ph = 2 := by rw [cls_same (by omega)]; exact q1
  have q4 : K'.ph = 2 := by rw [next_ph h3]; exact q3
  have q5 : K'.ended = K1.ended := by rw [next_ended h3, cls_ended]
  cases he : K.ended with
  | true =>
    have : pot c F.length (t + 1) S' K' = 0 := by
      unfold pot
      rw [if_neg (by omega), if_pos (by rw [q5]; exact q2 he)]
    omega
  | false =>
  cases hdu : S.due with
  | true =>
    have hK1 : K1.ended = true := by
      cases h1 with
      | fi hd =>
        rcases h2 with ⟨_, h2 | h2⟩ | ⟨u, K0, hu, _, hr, rfl⟩
        · cases h2
        · cases h2
        · injection hu with hu
          subst hu
          cases hr with
          | ad _ => rw [chk_ended]
      | over hd _ => rw [hdu] at hd; cases hd
      | md hd _ _ => rw [hdu] at hd; cases hd
      | again r l N hd _ _ _ _ _ => rw [hdu] at hd; cases hd
      | first hd _ _ _ _ => rw [hdu] at hd; cases hd
      | data hd _ _ _ _ _ => rw [hdu] at hd; cases hd
      | eof hd _ _ _ _ _ => rw [hdu] at hd; cases hd
      | idle hd _ _ _ _ _ => rw [hdu] at hd; cases hd
      | rep hd _ _ _ _ _ => rw [hdu] at hd; cases hd
    have : pot c F.length (t + 1) S' K' = 0 := by
      unfold pot
      rw [if_neg (by omega), if_pos (by rw [q5]; exact hK1)]
    omega
  | false =>
    have hS2 : S.ph ≠ 2 := fun h2 => by have := h.s.clo h2; rw [hdu] at this; cases this
    have p0 : pot c F.length t S K = 1 + rest t K.dd K.tm + (if S.ack = true ∨ S.ph ≠ 1 then 0 else 1) := by
      unfold pot
      rw [if_neg (by omega), he, hdu]
      simp
    have r1 := rest_ge t K.tm K.dd
    -- nothing is sent
    have quiet : S1 = { S with now := t } → K1 = K → pot c F.length (t + 1) S' K' ≤ pot c F.length t S K - 1 := by
      rintro rfl rfl
      rw [cls_same (by omega)] at h3
      have fin : ∀ K'' : Sk, K''.ph = 2 → K''.ended = false → Got2 F.length t false { S with now := t } (some .fi) S' → pot c F.length (t + 1) S' K'' ≤ 1 := fun K'' k1 k2 hg => by
        have hdue : S'.due = true := by
          rcases hg with ⟨_, hg | hg⟩ | ⟨u, hu, _, ht⟩
          · cases hg
          · cases hg
          · injection hu with hu
            subst hu
            cases ht with
            | fi1 _ => rfl
            | fi2 hq => exact absurd hq hS2
            | fi4 _ => rfl
        unfold pot
        rw [if_neg (by omega), k2, hdue]
        simp
      cases h3 with
      | ack ha => rw [had] at ha; cases ha
      | fi1 _ _ hd => exact Nat.le_trans (fin _ (by simpa using q4) (by simpa using he) h4) (by omega)
      | fi2 _ _ _ _ _ => exact Nat.le_trans (fin _ (by simpa using q4) (by simpa using he) h4) (by omega)
      | qu2 _ _ hd hee =>
        have hlt : t < K1.tm + 10 := by
          rcases hee with e | e
          · rw [he] at e; cases e
          · exact e
        have hSS : S' = { S with now := t } := by
          rcases h4 with ⟨e, _⟩ | ⟨u, hu, _⟩
          · exact e
          · cases hu
        subst hSS
        have p1 : pot c F.length (t + 1) { S with now := t } { K1 with now := t } = 1 + rest (t + 1) K1.dd K1.tm + (if S.ack = true ∨ S.ph ≠ 1 then 0 else 1) := by
          unfold pot
          simp only
          rw [if_neg (by omega), he, hdu]
          simp
        rw [p1, p0, hd]
        unfold rest
        simp only [Bool.false_eq_true, if_false]
        omega
      | nk N _ h0 _ _ _ => omega
      | qu0 _ h0 _ => omega
    cases h1 with
    | fi hd => rw [hdu] at hd; cases hd
    | over _ _ =>
      rcases h2 with ⟨e, _⟩ | ⟨u, K0, hu, _⟩
      · exact quiet rfl e
      · cases hu
    | md _ _ hm => rw [hme] at hm; cases hm
    | again r l N _ _ _ hw _ _ => rw [hwd] at hw; cases hw
    | first _ _ _ h0 _ => exact absurd h0 hS0
    | data _ _ _ h0 _ _ => exact absurd h0 hS0
    | eof _ _ _ h0 _ _ => exact absurd h0 hS0
    | idle _ _ _ _ _ _ =>
      rcases h2 with ⟨e, _⟩ | ⟨u, K0, hu, _⟩
      · exact quiet rfl e
      · cases hu
    | rep _ _ _ hp1 hack htt =>
      rcases h2 with ⟨_, h2 | h2⟩ | ⟨u, K0, hu, _, hr, rfl⟩
      · cases h2
      · cases h2
      · injection hu with hu
        subst hu
        cases hr with
        | ef0 h0 =>
          rw [chk_ph (by simpa using hp), cls_same (by simp only; omega)] at h3
          cases h3 with
          | ack ha =>
            rcases h4 with ⟨_, h4 | h4⟩ | ⟨u, hu, _, ht⟩
            · cases h4
            · cases h4
            · injection hu with hu
              subst hu
              cases ht with
              | ae =>
                have p1 : pot c F.length (t + 1) { S with now := t, tm := t, tr := S.tr + 1, ack := S.ack || decide (S.ph = 1) } { K with now := t, ad := false, dd := K.dd || decide (K.ph = 2) } ≤ 2 := by
                  unfold pot rest
                  simp only
                  rw [if_neg (by omega), he, hdu, hp1, hp]
                  simp
                have p2 : (if S.ack = true ∨ S.ph ≠ 1 then 0 else 1) = 1 := by rw [hack, hp1]; simp
                exact Nat.le_trans p1 (by omega)
          | fi1 ha _ _ => cases ha
          | fi2 ha _ _ _ _ => cases ha
          | qu2 ha _ _ _ => cases ha
          | nk N ha _ _ _ _ => cases ha
          | qu0 ha _ _ => cases ha
        | ef1 h0 _ => omega
        | ef2 h0 _ => omega
theorem chk_or {n : Nat} {K : Sk} (h : K.ph = 0) : (chk n K).ph = 1 ∨ chk n K = K := by
  unfold chk; split
  · exact .inl rfl
  · exact .inr rfl
theorem tick_f (t : Nat) (K : Sk) : (tick t K).named = K.named ∧ (tick t K).got = K.got ∧ (tick t K).ph = K.ph ∧ (tick t K).ad = K.ad ∧ (tick t K).fin = K.fin := by
  unfold tick; split <;> exact ⟨rfl, rfl, rfl, rfl, rfl⟩
/-- an answer to a receiving end that goes on: at most what is lacking, and what is not asked for -/
theorem pot_next {F : List Int} {c t : Nat} {S1 S' : Sr} {K1 K' : Sk} {o : Option Ut} {a b : Nat} (hs : IS c F.length t S1) (hk : IK F c t K') (hp : K1.ph = 0) (hS : S1.ph = 1) (had : K1.ad = false) (h3 : NextK F.length t K1 K' o) (h4 : Got2 F.length t false S1 o S') (hl : lack c F.length K1 ≤ a) (hu : unas c F.length S1 K1 ≤ b) : pot c F.length (t + 1) S' K' ≤ a + gg b + 13 := by
  have h0 := gg_mono hu
  have k1 := hk.tmr
  have k2 := hk.now
  obtain ⟨f1, f2, f3, f4, f5⟩ := tick_f t K1
  cases h3 with
  | ack ha => rw [had] at ha; cases ha
  | fi1 _ hq _ => omega
  | fi2 _ hq _ _ _ => omega
  | qu2 _ hq _ _ => omega
  | nk N _ _ hn hN hm =>
    rcases h4 with ⟨_, h4 | h4⟩ | ⟨u, hu', _, ht⟩
    · cases h4
    · cases h4
    · injection hu' with hu'
      subst hu'
      cases ht with
      | nk2 _ _ hq => exact absurd hS hq
      | nk1 m L N' hq hN' hm' =>
        have e1 := lack_eq (c := c) (n := F.length) (K := K1) (K' := { tick t K1 with nd := false }) f1 f2
        have e2 := (unas_asked (c := c) (n := F.length) (S := S1) (S' := { S1 with now := t, me := S1.me || !K1.named, wd := N', tm := t, tr := 0 }) (K := K1) (K' := { tick t K1 with nd := false }) f1 f2 rfl hm').2
        have e3 := gg_mono e2
        have e4 := pot0_le (c := c) (n := F.length) (t := t + 1) (S := { S1 with now := t, me := S1.me || !K1.named, wd := N', tm := t, tr := 0 }) (K := { tick t K1 with nd := false }) (by omega) (by simp only; omega)
        rw [e1] at e4
        omega
  | qu0 _ _ hn =>
    rcases h4 with ⟨rfl, _⟩ | ⟨u, hu', _⟩
    · have e1 := lack_eq (c := c) (n := F.length) (K := K1) (K' := tick t K1) f1 f2
      have e2 := unas_eq (c := c) (n := F.length) (S := S') (S' := S') (K := K1) (K' := tick t K1) f1 f2 rfl rfl
      have e4 := pot0_le (c := c) (n := F.length) (t := t + 1) (S := S') (K := tick t K1) (by omega) (by omega)
      rw [e1, e2] at e4
      omega
    · cases hu'
/-- once nothing is lost and the end is known: the potential falls -/
theorem pot_open {F : List Int} {c t : Nat} {S S' : Sr} {K K' : Sk} (hc : 8 ≤ c) (hn : F.length ≤ 300) (ht : 1 ≤ t) (h : Inv F c (t - 1) S K) (hp : K.ph = 0) (hfi : K.fin = true) (hr : Rnd F c t false false S K S' K') : pot c F.length (t + 1) S' K' ≤ pot c F.length t S K - 1 := by
  have hI := rnd_inv (by omega) (by omega) h hr
  have hS0 : S.ph ≠ 0 := fun h0 => by have := h.x.zf h0; rw [hfi] at this; cases this
  have hS1 : S.ph = 1 := by
    have := h.s.ph
    have := h.x.cl
    omega
  have hdu : S.due = false := by
    cases hd : S.due with
    | false => rfl
    | true => have := h.s.due hd; omega
  have hnow := h.k.now
  have htm := h.k.tmr
  have had := h.ad
  obtain ⟨S1, o, K1, o', h1, h2, h3, h4⟩ := hr
  obtain ⟨g1, g2, g3⟩ := got1_x (by omega) (by omega) h h1 h2
  have hpos : 13 ≤ pot c F.length t S K ∨ (S.me = false ∧ S.wd = []) := by
    by_cases hw : S.me = false ∧ S.wd = []
    · exact .inr hw
    · refine .inl ?_
      unfold pot
      rw [if_pos hp, if_neg hw]
      omega
  have hpot : ¬ (S.me = false ∧ S.wd = []) → pot c F.length t S K = lack c F.length K + gg (unas c F.length S K) + 13 := fun hw => by
    unfold pot
    rw [if_pos hp, if_neg hw]
  -- the file becomes whole
  have whole : K1.ph = 1 → 13 ≤ pot c F.length t S K → pot c F.length (t + 1) S' K' ≤ pot c F.length t S K - 1 := fun k1 k2 => by
    have e : K'.ph = 2 := by
      rw [next_ph h3]
      unfold cls
      rw [if_pos k1]
    have := pot2_le (c := c) (n := F.length) (t := t + 1) (S := S') (K := K') (by have := hI.k.tmr; have := hI.k.now; omega) (by omega)
    omega
  -- one less is lacking
  have less : K1.ph = 0 → S1.ph = 1 → K1.ad = false → ¬ (S.me = false ∧ S.wd = []) → lack c F.length K1 + 1 ≤ lack c F.length K → unas c F.length S1 K1 ≤ unas c F.length S K → pot c F.length (t + 1) S' K' ≤ pot c F.length t S K - 1 := fun k1 k2 k3 k4 k5 k6 => by
    rw [cls_same (by omega)] at h3
    have := pot_next (a := lack c F.length K - 1) (b := unas c F.length S K) g1 hI.k k1 k2 k3 h3 h4 (by omega) k6
    rw [hpot k4]
    omega
  cases h1 with
  | fi hd => rw [hdu] at hd; cases hd
  | over _ h4 => omega
  | first _ _ _ h0 _ => exact absurd h0 hS0
  | data _ _ _ h0 _ _ => exact absurd h0 hS0
  | eof _ _ _ h0 _ _ => exact absurd h0 hS0
  | md _ _ hm =>
    have hnm := h.x.me hm
    have hw : ¬ (S.me = false ∧ S.wd = []) := fun k => by rw [hm] at k; cases k.1
    rcases h2 with ⟨_, h2 | h2⟩ | ⟨u, K0, hu, _, hrc, rfl⟩
    · cases h2
    · cases h2
    · injection hu with hu
      subst hu
      cases hrc with
      | md0 h0 => exact absurd hp h0
      | md1 _ h0 => rw [hnm] at h0; cases h0
      | md2 _ _ =>
        rcases chk_or (n := F.length) (K := { K with now := t, named := true, tm := t, tr := 0 }) hp with e | e
        · exact whole e (by rw [hpot hw]; omega)
        · rw [e] at less
          refine less hp hS1 had hw ?_ ?_
          · have e1 : cnt 38 (mis c F.length { K with now := t, named := true, tm := t, tr := 0 }) = cnt 38 (mis c F.length K) := rfl
            unfold lack
            rw [e1, hnm]
            simp only [if_true, Bool.false_eq_true, if_false]
            omega
          · refine Nat.le_of_eq ?_
            unfold unas mis
            simp only [hm, hnm]
            simp
  | again r l N _ _ hme hwd hN hm =>
    have hw : ¬ (S.me = false ∧ S.wd = []) := fun k => by rw [hwd] at k; cases k.2
    have ha := h.s.al
    have hrn := h.s.nrm
    rw [hwd] at ha hrn
    obtain ⟨k, k1, k2, k3⟩ := first_chunk (by omega) hrn ha
    have hrt := hrn.full r (by simp)
    have hkm : mem S.wd ((c * k : Nat) : Int) := by rw [hwd]; exact ⟨r, by simp, by omega, by omega⟩
    have hkg := h.x.dis _ hkm
    have k38 := chunk38 hc hn k2
    rcases h2 with ⟨_, h2 | h2⟩ | ⟨u, K0, hu, _, hrc, rfl⟩
    · cases h2
    · cases h2
    · injection hu with hu
      subst hu
      have goal : ∀ K0 : Sk, K0.ph = 0 → K0.ad = false → K0.named = K.named → (∀ z, mem K0.got z ↔ mem K.got z ∨ ((r.f.toNat : Int) ≤ z ∧ z < ((min r.t (r.f + c)).toNat : Int))) → (lack c F.length K0 + 1 ≤ lack c F.length K ∧ unas c F.length { S with now := t, wd := N } K0 ≤ unas c F.length S K) := fun K0 _ _ e2 e3 => by
        have sub : ∀ i, i < 38 → mis c F.length K0 i = true → mis c F.length K i = true := fun i _ hi => by
          obtain ⟨i1, i2⟩ := mis_at.1 hi
          exact mis_at.2 ⟨i1, fun k => i2 ((e3 _).2 (.inl k))⟩
        have hk0 : mis c F.length K0 k = false := by
          cases hh : mis c F.length K0 k with
          | false => rfl
          | true => exact absurd ((e3 _).2 (.inr ⟨by omega, by omega⟩)) (mis_at.1 hh).2
        have := cnt_lt (n := 38) sub k38 hk0 (mis_at.2 ⟨k2, hkg⟩)
        refine ⟨by unfold lack; rw [e2]; omega, ?_⟩
        have := cnt_mono (n := 38) (p := fun i => mis c F.length K0 i && !decide (mem N ((c * i : Nat) : Int))) (q := fun i => mis c F.length K i && !decide (mem S.wd ((c * i : Nat) : Int))) fun i hi hp => by
          simp only [Bool.and_eq_true, Bool.not_eq_true', decide_eq_false_iff_not] at hp ⊢
          refine ⟨sub i hi hp.1, fun hw => hp.2 ((hm _).2 ⟨hw, fun hb => ?_⟩)⟩
          exact (mis_at.1 hp.1).2 ((e3 _).2 (.inr ⟨by omega, by omega⟩))
        unfold unas
        simp only
        rw [e2]
        omega
      cases hrc with
      | pc0 _ _ h0 => exact absurd hp h0
      | pc1 _ _ N' D h0 _ hm' _ _ _ _ =>
        rcases chk_or (n := F.length) (K := { K with now := t, dat := D, got := N', tm := t, tr := 0 }) hp with e | e
        · exact whole e (by rw [hpot hw]; omega)
        · rw [e] at less
          obtain ⟨x1, x2⟩ := goal { K with now := t, dat := D, got := N', tm := t, tr := 0 } hp had rfl hm'
          exact less hp hS1 had hw x1 x2
      | pc2 _ _ N' D h0 _ hm' _ _ _ _ =>
        rcases chk_or (n := F.length) (K := { K with now := t, dat := D, got := N' }) hp with e | e
        · exact whole e (by rw [hpot hw]; omega)
        · rw [e] at less
          obtain ⟨x1, x2⟩ := goal { K with now := t, dat := D, got := N' } hp had rfl hm'
          exact less hp hS1 had hw x1 x2
  | idle _ hme hwd _ _ _ =>
    rcases h2 with ⟨rfl, _⟩ | ⟨u, K0, hu, _⟩
    · rw [cls_same (by omega)] at h3
      have p0 : pot c F.length t S K1 = lack c F.length K1 + gg (unas c F.length S K1) + (rest t K1.nd K1.tm + (if S.ack then 0 else 1) + 1) := by
        unfold pot
        rw [if_pos hp, if_pos ⟨hme, hwd⟩]
      have r1 := rest_ge t K1.tm K1.nd
      obtain ⟨f1, f2, f3, f4, f5⟩ := tick_f t K1
      have okk := (half4 (by omega) (Nat.le_refl t) g2 g3 h3).2.2.1
      have tmr' := hI.k.tmr
      have now' := hI.k.now
      cases h3 with
      | ack ha => rw [had] at ha; cases ha
      | fi1 _ hq _ => omega
      | fi2 _ hq _ _ _ => omega
      | qu2 _ hq _ _ => omega
      | nk N _ _ hnd hN hm =>
        rcases h4 with ⟨_, h4 | h4⟩ | ⟨u, hu', _, ht'⟩
        · cases h4
        · cases h4
        · injection hu' with hu'
          subst hu'
          cases ht' with
          | nk2 _ _ hq => exact absurd hS1 hq
          | nk1 m L N' hq hN' hm' =>
            have e1 := lack_eq (c := c) (n := F.length) (K := K1) (K' := { tick t K1 with nd := false }) f1 f2
            have e2 := unas_nak (S := S) (S' := { S with now := t, me := S.me || !K1.named, wd := N', tm := t, tr := 0 }) (K := K1) (K' := { tick t K1 with nd := false }) hc hn hN (al_not g2.al hm) hm okk.2.2.2.2.2.2.1 f1 f2 hme hwd rfl hm'
            have e4 := pot0_le (c := c) (n := F.length) (t := t + 1) (S := { S with now := t, me := S.me || !K1.named, wd := N', tm := t, tr := 0 }) (K := { tick t K1 with nd := false }) (by simp only at tmr' now' ⊢; omega) (by simp only; omega)
            rw [e1] at e4
            rw [p0]
            refine Nat.le_trans e4 ?_
            omega
      | qu0 _ _ hnd =>
        rcases h4 with ⟨rfl, _⟩ | ⟨u, hu', _⟩
        · have hlt : t < K1.tm + 10 ∧ K1.nd = false := by
            unfold tick at hnd
            split at hnd
            · rw [hfi] at hnd; simp at hnd
            · exact ⟨by omega, hnd⟩
          have etk : tick t K1 = { K1 with now := t } := by unfold tick; rw [if_neg (by omega)]
          have p1 : pot c F.length (t + 1) { S with now := t } (tick t K1) = lack c F.length K1 + gg (unas c F.length S K1) + (rest (t + 1) false K1.tm + (if S.ack then 0 else 1) + 1) := by
            rw [etk]
            unfold pot
            rw [if_pos (by simpa using hp), if_pos ⟨hme, hwd⟩]
            simp only
            rw [hlt.2]
            rfl
          rw [p1, p0, hlt.2]
          unfold rest
          simp only [Bool.false_eq_true, if_false]
          omega
        · cases hu'
    · cases hu
  | rep _ hme hwd _ hack htt =>
    rcases h2 with ⟨_, h2 | h2⟩ | ⟨u, K0, hu, _, hrc, rfl⟩
    · cases h2
    · cases h2
    · injection hu with hu
      subst hu
      have p0 : pot c F.length t S K = lack c F.length K + gg (unas c F.length S K) + (rest t K.nd K.tm + 1 + 1) := by
        unfold pot
        rw [if_pos hp, if_pos ⟨hme, hwd⟩, hack]
        simp
      cases hrc with
      | ef0 h0 => exact absurd hp h0
      | ef2 _ h0 => rw [hfi] at h0; cases h0
      | ef1 _ _ =>
        have e : chk F.length { K with now := t, ad := true } = { K with now := t, ad := true } := if_neg fun k => absurd (h.k.nc hp k.2.1 hfi) k.2.2.2
        rw [e, cls_same (by simp only; omega)] at h3
        cases h3 with
        | ack ha =>
          rcases h4 with ⟨_, h4 | h4⟩ | ⟨u, hu, _, ht'⟩
          · cases h4
          · cases h4
          · injection hu with hu
            subst hu
            cases ht' with
            | ae =>
              have p1 : pot c F.length (t + 1) { S with now := t, tm := t, tr := S.tr + 1, ack := S.ack || decide (S.ph = 1) } { K with now := t, ad := false } = lack c F.length K + gg (unas c F.length S K) + (rest (t + 1) K.nd K.tm + 0 + 1) := by
                unfold pot
                rw [if_pos (by simpa using hp), if_pos ⟨hme, hwd⟩]
                simp only
                rw [hS1]
                simp
                rfl
              refine Nat.le_trans (Nat.le_of_eq p1) ?_
              rw [p0]
              unfold rest
              split <;> omega
        | fi1 ha _ _ => cases ha
        | fi2 ha _ _ _ _ => cases ha
        | qu2 ha _ _ _ => cases ha
        | nk N ha _ _ _ _ => cases ha
        | qu0 ha _ _ => cases ha
/-- how far the transaction is at the start of round t -/
structure Jn (F : List Int) (c t : Nat) (S : Sr) (K : Sk) : Prop where
  go : S.ph = 0 → 1 ≤ t → S.st = true ∧ (S.pos = F.length ∨ 8 * (t - 1) ≤ S.pos)
  on : S.ph = 0 → 2 ≤ t → 8 * (t - 2) < F.length
  wt : K.fin = false → S.ph = 1 → t ≤ S.tm + 10
  lt : 50 ≤ t → K.fin = false → S.tm ≤ 49
  pt : 60 ≤ t → pot c F.length t S K ≤ 352 - t
theorem rec_fin {F : List Int} {t : Nat} {K K' : Sk} {u : Ut} (h : RecK F t K u K') (he : K.fin = true) : K'.fin = true := by
  cases h <;> first | exact he | rfl
theorem chk_fin {n : Nat} {K : Sk} : (chk n K).fin = K.fin := by unfold chk; split <;> rfl
theorem cls_fin {t : Nat} {K : Sk} : (cls t K).fin = K.fin := by unfold cls; split <;> rfl
theorem next_fin {n t : Nat} {K K' : Sk} {o : Option Ut} (h : NextK n t K K' o) : K'.fin = K.fin := by
  cases h <;> first | rfl | (unfold tick; split <;> rfl)
theorem got1_fin {F : List Int} {t : Nat} {up : Bool} {K K1 : Sk} {o : Option Ut} (hg : Got1 F t up K o K1) (h : K.fin = true) : K1.fin = true := by
  rcases hg with ⟨rfl, _⟩ | ⟨u, K0, rfl, _, hr, rfl⟩
  · exact h
  · rw [chk_fin]; exact rec_fin hr h
theorem takeS_ph {n t : Nat} {S S' : Sr} {u : Ut} (h : TakeS n t S u S') : S'.st = S.st ∧ S'.pos = S.pos ∧ (S'.ph = 0 → S.ph = 0) := by
  cases h with
  | ae => exact ⟨rfl, rfl, id⟩
  | nk1 _ _ _ _ _ _ => exact ⟨rfl, rfl, id⟩
  | nk2 _ _ _ => exact ⟨rfl, rfl, id⟩
  | fi1 _ => exact ⟨rfl, rfl, by simp⟩
  | fi2 _ => exact ⟨rfl, rfl, id⟩
  | fi4 _ => exact ⟨rfl, rfl, id⟩
theorem rnd_go {F : List Int} {c t : Nat} {up dn : Bool} {S S' : Sr} {K K' : Sk} (hc : 8 ≤ c) (hn : F.length ≤ 300) (hl : 50 ≤ t → up = false ∧ dn = false) (h : Inv F c (t - 1) S K) (j : Jn F c t S K) (hr : Rnd F c t up dn S K S' K') : Jn F c (t + 1) S' K' := by
  have hI := rnd_inv (by omega) (by omega) h hr
  have hR := hr
  obtain ⟨S1, o, K1, o', h1, h2, h3, h4⟩ := hr
  have g := got1_x (by omega) (by omega) h h1 h2
  have b := half3 (Nat.le_refl t) g.2.1 g.2.2
  have okk := (half4 (by omega) (Nat.le_refl t) b.1 b.2.1 h3).2.2.1
  -- as long as the end is not known
  have early : K'.fin = false → K.fin = false ∧ K1.fin = false ∧ S' = S1 ∧ S.me = false ∧ S.wd = [] ∧ S.ack = false := fun hf => by
    have e1 : K1.fin = false := by rw [← cls_fin (t := t), ← next_fin h3]; exact hf
    have e0 : K.fin = false := by
      cases hk : K.fin with
      | false => rfl
      | true => rw [got1_fin h2 hk] at e1; cases e1
    refine ⟨e0, e1, ?_, h.x.ef e0⟩
    rcases h4 with ⟨e, _⟩ | ⟨u, rfl, _, ht⟩
    · exact e
    · exfalso
      cases ht with
      | ae => rw [show K'.fin = true from okk] at hf; cases hf
      | nk1 m L N _ _ _ => rw [show K'.fin = true from okk.2.2.2.2.1] at hf; cases hf
      | nk2 m L _ => rw [show K'.fin = true from okk.2.2.2.2.1] at hf; cases hf
      | fi1 _ => rw [(hI.k.all (by rw [show K'.ph = 2 from okk]; omega)).2.1] at hf; cases hf
      | fi2 _ => rw [(hI.k.all (by rw [show K'.ph = 2 from okk]; omega)).2.1] at hf; cases hf
      | fi4 _ => rw [(hI.k.all (by rw [show K'.ph = 2 from okk]; omega)).2.1] at hf; cases hf
  have send : S'.ph = 0 → S1.ph = 0 ∧ S'.st = S1.st ∧ S'.pos = S1.pos := fun h0 => by
    rcases h4 with ⟨e, _⟩ | ⟨u, _, _, ht⟩
    · rw [e] at h0 ⊢; exact ⟨h0, rfl, rfl⟩
    · have := takeS_ph ht
      exact ⟨this.2.2 h0, this.1, this.2.1⟩
  have both : S'.ph = 0 → S'.st = true ∧ (S'.pos = F.length ∨ 8 * t ≤ S'.pos) ∧ (1 ≤ t → 8 * (t - 1) < F.length) := fun h0 => by
    obtain ⟨e1, e2, e3⟩ := send h0
    rw [e2, e3]
    have hS : S.ph = 0 → S.me = false ∧ S.wd = [] := fun k => by
      have := h.x.ef (h.x.zf k)
      exact ⟨this.1, this.2.1⟩
    cases h1 with
    | fi _ => simp at e1
    | over _ k => simp only at e1; omega
    | md _ _ k => have := (hS e1).1; rw [this] at k; cases k
    | again r l N _ _ _ k _ _ => have := (hS e1).2; rw [this] at k; cases k
    | first _ _ _ k1 k2 =>
      have ht0 : t = 0 := by
        rcases Nat.eq_zero_or_pos t with k | k
        · exact k
        · have := (j.go k1 k).1
          rw [k2] at this
          cases this
      subst ht0
      exact ⟨rfl, .inr (by omega), by omega⟩
    | data _ _ _ k1 k2 k3 =>
      refine ⟨k2, ?_, fun ht => ?_⟩
      · simp only
        rcases Nat.eq_zero_or_pos t with k | k
        · subst k; right; omega
        · have := (j.go k1 k).2
          omega
      · have := (j.go k1 ht).2
        omega
    | eof _ _ _ _ _ _ => simp at e1
    | idle _ _ _ k _ _ => exact absurd e1 k
    | rep _ _ _ k _ _ => simp only at e1; omega
  refine ⟨fun h0 _ => ⟨(both h0).1, ?_⟩, fun h0 ht => ?_, fun hf hp => ?_, fun ht hf => ?_, fun ht => ?_⟩
  · have := (both h0).2.1
    rcases this with k | k
    · exact .inl k
    · exact .inr (by omega)
  · have := (both h0).2.2 (by omega)
    rw [show t + 1 - 2 = t - 1 by omega]
    exact this
  · obtain ⟨e0, e1, e2, e3, e4, e5⟩ := early hf
    subst e2
    cases h1 with
    | fi _ => simp at hp
    | over _ k => simp only at hp; omega
    | md _ _ k => rw [e3] at k; cases k
    | again r l N _ _ _ k _ _ => rw [e4] at k; cases k
    | first _ _ _ k _ => simp only at hp; omega
    | data _ _ _ k _ _ => simp only at hp; omega
    | eof _ _ _ _ _ _ => simp only; omega
    | idle _ _ _ _ _ k =>
      simp only at hp ⊢
      rcases k with k | k | k
      · exact absurd hp k
      · rw [e5] at k; cases k
      · omega
    | rep _ _ _ _ _ _ => simp only; omega
  · rcases Nat.lt_or_ge t 50 with h50 | h50
    · have := hI.s.tmr
      have := hI.s.now
      omega
    · obtain ⟨e0, e1, e2, e3, e4, e5⟩ := early hf
      have hlo := j.lt h50 e0
      obtain ⟨u1, u2⟩ := hl h50
      subst e2
      have noef : o ≠ some .ef := fun ho => by
        subst ho
        rcases h2 with ⟨_, k | k⟩ | ⟨u, K0, hu, _, hrc, rfl⟩
        · cases k
        · rw [u1] at k; cases k
        · injection hu with hu
          subst hu
          rw [chk_fin] at e1
          cases hrc with
          | ef0 h0 => rw [(h.k.all h0).2.1] at e0; cases e0
          | ef1 _ k => rw [k] at e0; cases e0
          | ef2 _ _ => cases e1
      cases h1 with
      | fi _ => exact hlo
      | over _ _ => exact hlo
      | md _ _ _ => exact hlo
      | again r l N _ _ _ _ _ _ => exact hlo
      | first _ _ _ _ _ => exact hlo
      | data _ _ _ _ _ _ => exact hlo
      | eof _ _ _ _ _ _ => exact absurd rfl noef
      | idle _ _ _ _ _ _ => exact hlo
      | rep _ _ _ _ _ _ => exact absurd rfl noef
  · rcases Nat.lt_or_ge t 60 with h60 | h60
    · have := pot_le (c := c) (n := F.length) (t := t + 1) (S := S') (K := K') (by have := hI.k.tmr; have := hI.k.now; omega)
      omega
    · obtain ⟨u1, u2⟩ := hl (by omega)
      subst u1; subst u2
      have hfi : K.fin = true := by
        cases hk : K.fin with
        | true => rfl
        | false =>
          exfalso
          have k4 := j.lt (by omega) hk
          have hp := h.s.ph
          by_cases p0 : S.ph = 0
          · have := j.on p0 (by omega)
            omega
          · by_cases p1 : S.ph = 1
            · have := j.wt hk p1
              omega
            · have := h.x.cl (by omega)
              have := (h.k.all (by omega)).2.1
              rw [hk] at this
              cases this
      have hpt := j.pt h60
      rcases h.ph with hp | hp
      · have := pot_open hc hn (by omega) h hp hfi hR
        omega
      · have := pot_closed (by omega) h hp hR
        omega
/-- at the end: both are done -/
theorem at_end {F : List Int} {c : Nat} {S : Sr} {K : Sk} (h : Inv F c 399 S K) (j : Jn F c 400 S K) : S.ph = 4 ∧ K.ph = 2 ∧ K.ended = true ∧ K.named = true ∧ K.fin = true ∧ ∀ z : Int, 0 ≤ z → z < F.length → mem K.got z := by
  have hp := j.pt (by omega)
  unfold pot at hp
  by_cases h0 : K.ph = 0
  · rw [if_pos h0] at hp
    exfalso
    split at hp <;> omega
  · rw [if_neg h0] at hp
    have he : K.ended = true := by
      cases hk : K.ended with
      | true => rfl
      | false =>
        exfalso
        rw [hk] at hp
        simp only [Bool.false_eq_true, if_false] at hp
        split at hp <;> omega
    have h2 : K.ph = 2 := by have := h.ph; omega
    exact ⟨h.x.en he, h2, he, h.k.all h0⟩
def sr0 : Sr := ⟨0, 0, false, 0, false, [], false, 0, 0, false⟩
def sk0 : Sk := ⟨0, 0, false, false, false, [], [], 0, 0, false, false, false⟩
theorem inv0 (F : List Int) (c : Nat) : Inv F c 0 sr0 sk0 := by
  refine ⟨⟨Nat.le_refl _, .inl rfl, nrm_nil, al_nil _ _, fun _ => ⟨rfl, rfl⟩, ⟨Nat.le_refl _, Nat.le_refl _⟩, ?_, (fun h => by cases h), (fun h => by cases h)⟩, ⟨Nat.le_refl _, nrm_nil, al_nil _ _, Nat.zero_le _, fun z hz => absurd hz (mem_nil _), ⟨Nat.le_refl _, Nat.le_refl _⟩, (fun h => by cases h), (fun h => by cases h), .inl rfl, fun h => absurd rfl h, (fun _ h => by cases h)⟩, ⟨fun z hz => absurd hz (mem_nil _), (fun h => by cases h), fun _ => ⟨rfl, rfl, rfl⟩, fun _ => rfl, fun h => absurd h (by decide), (fun h => by cases h)⟩, .inl rfl, rfl⟩
  rcases Nat.eq_zero_or_pos F.length with h | h
  · exact .inl h.symm
  · exact .inr ⟨h, 0, by rw [Nat.mul_zero]; rfl⟩
theorem jn0 (F : List Int) (c : Nat) : Jn F c 0 sr0 sk0 :=
  ⟨fun _ h => absurd h (by omega), fun _ h => absurd h (by omega), fun _ h => absurd h (by decide), fun h => absurd h (by omega), fun h => absurd h (by omega)⟩
end Go.Proofs.Ytfkbcflgbjncdaa
