/- General lemmas over any program: a slice of the call's own, whatever its address; append to it. -/
import Derived.Test.YtfkbcflgbjncdaaLL
import Derived.Maps.AppendAt
import Derived.Deep.AppendLies
import Derived.OwnWalk
import Derived.Laws.OwnMore
namespace Go.Proofs.Ytfkbcflgbjncdaa
set_option linter.unusedVariables false
set_option linter.unusedSimpArgs false
open Go.RowKit

/-- the blocks of a slice's address -/
def blks (A : Option Addr) : List Nat := match A with | some a => [a.block] | none => []

/-- the slice value '.slice A n c' owns the cells xs (n elements of 'size' cells each): nil, or at the head of a row -/
def Sl (w : World) (e : TypeId) (size : Nat) (A : Option Addr) (n c : Nat) (xs : List Value) : Prop := w.ownsRow 0 e size (.slice A n c) n xs

theorem Sl.nil (w : World) (e : TypeId) (size : Nat) : Sl w e size none 0 0 [] := World.ownsRow_nil w 0 e size

section
variable {w w' : World} {e : TypeId} {size n c : Nat} {A : Option Addr} {xs : List Value}
theorem Sl.length (h : Sl w e size A n c xs) : xs.length = n * size := h.1
theorem Sl.form (h : Sl w e size A n c xs) : (A = none ∧ n = 0 ∧ c = 0) ∨ ∃ g, A = some ⟨g, 0, none⟩ ∧ g < w.heap.size ∧ n ≤ c ∧ c ≤ maxLen := by
  rcases h.2 with ⟨hv, hn⟩ | ⟨g, cap, cur, hv, _, hg, hc, hm, _⟩
  · injection hv with h1 h2 h3
    exact .inl ⟨h1, hn, h3⟩
  · injection hv with h1 h2 h3
    subst h3
    exact .inr ⟨g, h1, (Array.getElem?_eq_some_iff.1 hg).1, hc, hm⟩
theorem Sl.blk (h : Sl w e size A n c xs) {g : Nat} (hg : g ∈ blks A) : g < w.heap.size := by
  rcases h.form with ⟨rfl, _⟩ | ⟨g', rfl, hlt, _⟩
  · simp [blks] at hg
  · simp [blks] at hg; omega
theorem Sl.keep {B : Nat} {S : List Nat} (h : Sl w e size A n c xs) (k : Keep B S w w') (hb : ∀ g, g ∈ blks A → g < B ∧ g ∉ S) : Sl w' e size A n c xs := by
  refine ⟨h.1, ?_⟩
  rcases h.2 with hn | ⟨g, cap, cur, hv, h0, hg, rest⟩
  · exact .inl hn
  · injection hv with h1 h2 h3
    subst h1; subst h3
    obtain ⟨h4, h5⟩ := hb g (by simp [blks])
    exact .inr ⟨g, c, cur, rfl, h0, (k.block g h4 h5).trans hg, rest⟩
theorem Sl.keepS {S : List Nat} (h : Sl w e size A n c xs) (k : Keep w.heap.size S w w') (hb : ∀ g, g ∈ blks A → g ∉ S) : Sl w' e size A n c xs :=
  h.keep k fun g hg => ⟨h.blk hg, hb g hg⟩
theorem Sl.keep0 (h : Sl w e size A n c xs) (k : Keep w.heap.size [] w w') : Sl w' e size A n c xs := h.keepS k (by simp)
theorem Sl.alloc (h : Sl w e size A n c xs) (o : Obj) : Sl (w.alloc o) e size A n c xs := World.ownsRow.alloc h o
theorem Sl.drew (h : Sl w e size A n c xs) : Sl w.drew e size A n c xs := h
theorem Sl.drewN (h : Sl w e size A n c xs) (k : Nat) : Sl (w.drewN k) e size A n c xs := h
/-- a cell of it -/
theorem Sl.cell (h : Sl w e size A n c xs) {j : Nat} (hj : j < n * size) : ∃ g, A = some ⟨g, 0, none⟩ ∧ g < w.heap.size ∧ w.cell? ⟨g, j, none⟩ = xs[j]? := by
  rcases h.form with ⟨_, rfl, _⟩ | ⟨g, rfl, hlt, _⟩
  · simp at hj
  · exact ⟨g, rfl, hlt, World.ownsRow.cellAt h j hj⟩
theorem Sl.far {p : Addr} (h : Sl w e size A n c xs) (u : Value) (hp : p.block ∉ blks A) : Sl (w.setCell p u) e size A n c xs :=
  h.keepS (S := [p.block]) ((Keep.refl _ _ _).setCell (.inr (by simp)) u) (fun g hg => by simp; rintro rfl; exact hp hg)
theorem blks_some {g o : Nat} {s : Option Nat} : blks (some ⟨g, o, s⟩) = [g] := rfl
/-- a block of another element type is none of the row's -/
theorem Sl.ne_blk {g : Nat} {t : TypeId} {cs : Array Value} (h : Sl w e size A n c xs) (hb : Blk w g t cs) (hne : e ≠ t) : g ∉ blks A := by
  rcases h.2 with ⟨hv, _⟩ | ⟨g', cap, cur, hv, _, hg, _⟩
  · injection hv with h1; subst h1; simp [blks]
  · injection hv with h1; subst h1
    simp only [blks, List.mem_singleton]
    intro e'
    subst e'
    exact Blk.ne_ (t := e) hg hb hne rfl

theorem ownBlock_blks (A : Option Addr) (n c : Nat) (k : Nat) (h : (Value.slice A n c).ownBlock = some k) : k ∈ blks A := by
  cases A with
  | none => simp [Value.ownBlock] at h
  | some a => simp [Value.ownBlock] at h; simp [blks, h]
end

section
variable {P : Program} (w : World)
/-- append: the new slice's address is the old one's block or a new block -/
theorem wpList_app {ops : Array Oper} {rest : List Oper} {o : Oper} {a : Act} {Q : Exit → Act → World → Prop} (hgd : o.guard = none) (s x : Operand) (t : TypeId)
    (ho : o.op = .call { callee := .builtin .append, args := #[s, x], argTypes := #[t, t] })
    (e : TypeId) (i : TypeInfo) (z : Value) (size bytes : Nat) (ht : P.underlying t = some (.slice e)) (hi : P.info? e = some i) (hz : i.zero = some z)
    (hsize : i.size = size) (hby : i.bytes = bytes) (hzs : z.cells.size = size) (hsz : 0 < size)
    (A : Option Addr) (n cp : Nat) (xs : List Value) (hs : a.eval s = .slice A n cp) (hown : Sl w e size A n cp xs)
    (ad : Addr) (m c : Nat) (news : List Value) (hx : a.eval x = .slice (some ad) m c) (hl : news.length = m * size) (hnews : ∀ j u, news[j]? = some u → w.cell? (ad.add j) = some u) (h1 : ∀ u ∈ news, u.oneCell' = true)
    (h63 : n + m ≤ maxLen) (hbytes : (n + m) * bytes ≤ 140737488355328)
    (h : ∀ A' c' w', Sl w' e size A' (n + m) c' (xs ++ news) → Keep w.heap.size (blks A) w w' → (∀ g, g ∈ blks A' → g ∈ blks A ∨ g = w.heap.size) → wpList P ops Q rest (a.put o.dst (.slice A' (n + m) c')) w') :
    wpList P ops Q (o :: rest) a w := by
  refine wpList_plain hgd fun K hK => ?_
  obtain ⟨v', w', hr, h2, h3, h4, h5⟩ := run_append_own_at (P := P) w 0 t o.type e i z size bytes ht hi hz hsize hby hzs hsz (.slice A n cp) n xs hown ad m c news hl hnews h1 h63 hbytes (Nat.zero_le _)
  obtain ⟨A', c', hv⟩ : ∃ A' c', v' = .slice A' (n + m) c' := by
    rcases h2.2 with ⟨hv, hn⟩ | ⟨g, cap, cur, hv, _⟩
    · exact ⟨none, 0, by rw [hv, hn]⟩
    · exact ⟨_, _, hv⟩
  subst hv
  unfold Oper.wp execOp
  simp only [ho, resolve, invoke, builtin, Sem.run_bind, Sem.run_pure, Result.andThen_ok, List.map_toArray, List.map_cons, List.map_nil, hs, hx, hr]
  refine hK _ _ (h A' c' w' h2 (Keep.of_grown h3 (Nat.le_refl _) fun k hk _ => ownBlock_blks A n cp k hk) fun g hg => ?_)
  have hgo : (Value.slice A' (n + m) c').ownBlock = some g := by
    cases A' with
    | none => simp [blks] at hg
    | some ad' => simp [blks] at hg; simp [Value.ownBlock, hg]
  rcases h5 with h5 | h5
  · exact .inl (ownBlock_blks A n cp g (h5 ▸ hgo))
  · rw [hgo] at h5
    exact .inr (Option.some.inj h5)
/-- append of one element, which lies in a block of its own -/
theorem wpList_app1 {ops : Array Oper} {rest : List Oper} {o : Oper} {a : Act} {Q : Exit → Act → World → Prop} (hgd : o.guard = none) (s x : Operand) (t : TypeId)
    (ho : o.op = .call { callee := .builtin .append, args := #[s, x], argTypes := #[t, t] })
    (e : TypeId) (i : TypeInfo) (z : Value) (size bytes : Nat) (ht : P.underlying t = some (.slice e)) (hi : P.info? e = some i) (hz : i.zero = some z)
    (hsize : i.size = size) (hby : i.bytes = bytes) (hzs : z.cells.size = size) (hsz : 0 < size)
    (A : Option Addr) (n cp : Nat) (xs : List Value) (hs : a.eval s = .slice A n cp) (hown : Sl w e size A n cp xs)
    (g c : Nat) (cs : Array Value) (hx : a.eval x = .slice (some ⟨g, 0, none⟩) 1 c) (hsrc : Blk w g e cs) (hcs : cs.size = size) (h1 : cs.toList.all (fun u => u.oneCell') = true)
    (hbd : n + 1 ≤ 1000000000) (hbd2 : bytes ≤ 100000)
    (h : ∀ A' c' w', Sl w' e size A' (n + 1) c' (xs ++ cs.toList) → Keep w.heap.size (blks A) w w' → (∀ g, g ∈ blks A' → g ∈ blks A ∨ g = w.heap.size) → wpList P ops Q rest (a.put o.dst (.slice A' (n + 1) c')) w') :
    wpList P ops Q (o :: rest) a w := by
  have hb : (n + 1) * bytes ≤ 1000000000 * 100000 := Nat.mul_le_mul hbd hbd2
  refine wpList_app w hgd s x t ho e i z size bytes ht hi hz hsize hby hzs hsz A n cp xs hs hown ⟨g, 0, none⟩ 1 c cs.toList hx (by simpa using hcs) (fun j u hu => ?_)
    (fun u hu => List.all_eq_true.1 h1 u hu) (by unfold maxLen; omega) (by omega) h
  have hadd : (⟨g, 0, none⟩ : Addr).add j = ⟨g, j, none⟩ := by unfold Addr.add; split <;> simp_all
  rw [hadd, hsrc.cell j]
  simpa using hu
/-- the same, for a region that draws its order -/
theorem wp_app1 {o : Oper} {a : Act} {K : Act → World → Prop} {Q : Exit → Act → World → Prop} (s x : Operand) (t : TypeId)
    (ho : o.op = .call { callee := .builtin .append, args := #[s, x], argTypes := #[t, t] })
    (e : TypeId) (i : TypeInfo) (z : Value) (size bytes : Nat) (ht : P.underlying t = some (.slice e)) (hi : P.info? e = some i) (hz : i.zero = some z)
    (hsize : i.size = size) (hby : i.bytes = bytes) (hzs : z.cells.size = size) (hsz : 0 < size)
    (A : Option Addr) (n cp : Nat) (xs : List Value) (hs : a.eval s = .slice A n cp) (hown : Sl w e size A n cp xs)
    (g c : Nat) (cs : Array Value) (hx : a.eval x = .slice (some ⟨g, 0, none⟩) 1 c) (hsrc : Blk w g e cs) (hcs : cs.size = size) (h1 : cs.toList.all (fun u => u.oneCell') = true)
    (hbd : n + 1 ≤ 1000000000) (hbd2 : bytes ≤ 100000)
    (h : ∀ A' c' w', Sl w' e size A' (n + 1) c' (xs ++ cs.toList) → Keep w.heap.size (blks A) w w' → (∀ g, g ∈ blks A' → g ∈ blks A ∨ g = w.heap.size) → K (a.put o.dst (.slice A' (n + 1) c')) w') :
    o.wp P a w K Q := by
  have hb : (n + 1) * bytes ≤ 1000000000 * 100000 := Nat.mul_le_mul hbd hbd2
  have hl : cs.toList.length = 1 * size := by simpa using hcs
  obtain ⟨v', w', hr, h2, h3, h4, h5⟩ := run_append_own_at (P := P) w 0 t o.type e i z size bytes ht hi hz hsize hby hzs hsz (.slice A n cp) n xs hown ⟨g, 0, none⟩ 1 c cs.toList hl (fun j u hu => by
    have hadd : (⟨g, 0, none⟩ : Addr).add j = ⟨g, j, none⟩ := by unfold Addr.add; split <;> simp_all
    rw [hadd, hsrc.cell j]
    simpa using hu) (fun u hu => List.all_eq_true.1 h1 u hu) (by unfold maxLen; omega) (by omega) (Nat.zero_le _)
  obtain ⟨A', c', hv⟩ : ∃ A' c', v' = .slice A' (n + 1) c' := by
    rcases h2.2 with ⟨hv, hn⟩ | ⟨g, cap, cur, hv, _⟩
    · exact ⟨none, 0, by rw [hv, hn]⟩
    · exact ⟨_, _, hv⟩
  subst hv
  unfold Oper.wp execOp
  simp only [ho, resolve, invoke, builtin, Sem.run_bind, Sem.run_pure, Result.andThen_ok, List.map_toArray, List.map_cons, List.map_nil, hs, hx, hr]
  refine (h A' c' w' h2 (Keep.of_grown h3 (Nat.le_refl _) fun k hk _ => ownBlock_blks A n cp k hk) fun g hg => ?_)
  have hgo : (Value.slice A' (n + 1) c').ownBlock = some g := by
    cases A' with
    | none => simp [blks] at hg
    | some ad' => simp [blks] at hg; simp [Value.ownBlock, hg]
  rcases h5 with h5 | h5
  · exact .inl (ownBlock_blks A n cp g (h5 ▸ hgo))
  · rw [hgo] at h5
    exact .inr (Option.some.inj h5)
theorem step_app1 {ops : Array Oper} {o : Oper} {a : Act} {K : Act → World → Prop} {Q : Exit → Act → World → Prop} {E : Prop} (hgd : o.guard = none) (s x : Operand) (t : TypeId)
    (ho : o.op = .call { callee := .builtin .append, args := #[s, x], argTypes := #[t, t] })
    (e : TypeId) (i : TypeInfo) (z : Value) (size bytes : Nat) (ht : P.underlying t = some (.slice e)) (hi : P.info? e = some i) (hz : i.zero = some z)
    (hsize : i.size = size) (hby : i.bytes = bytes) (hzs : z.cells.size = size) (hsz : 0 < size)
    (A : Option Addr) (n cp : Nat) (xs : List Value) (hs : a.eval s = .slice A n cp) (hown : Sl w e size A n cp xs)
    (g c : Nat) (cs : Array Value) (hx : a.eval x = .slice (some ⟨g, 0, none⟩) 1 c) (hsrc : Blk w g e cs) (hcs : cs.size = size) (h1 : cs.toList.all (fun u => u.oneCell') = true)
    (hbd : n + 1 ≤ 1000000000) (hbd2 : bytes ≤ 100000)
    (h : ∀ A' c' w', Sl w' e size A' (n + 1) c' (xs ++ cs.toList) → Keep w.heap.size (blks A) w w' → (∀ g, g ∈ blks A' → g ∈ blks A ∨ g = w.heap.size) → K (a.put o.dst (.slice A' (n + 1) c')) w') :
    if Region.wanted o (yielded ops a.tmps) = true then Oper.wp P o a w K Q else E := by
  have hw : Region.wanted o (yielded ops a.tmps) = true := by simp [Region.wanted, hgd]
  rw [if_pos hw]
  exact wp_app1 w s x t ho e i z size bytes ht hi hz hsize hby hzs hsz A n cp xs hs hown g c cs hx hsrc hcs h1 hbd hbd2 h
end

/-- a slice that is read: m elements of 'size' cells at X (nil, or anywhere in a row) -/
def Vw (w : World) (X : Option Addr) (m size : Nat) (xs : List Value) : Prop :=
  xs.length = m * size ∧ (0 < m → ∃ b o, X = some ⟨b, o, none⟩ ∧ b < w.heap.size ∧ ∀ (j : Nat) (u : Value), xs[j]? = some u → w.cell? ⟨b, o + j, none⟩ = some u)

section
variable {w w' : World} {e : TypeId} {size n c m : Nat} {A X : Option Addr} {xs : List Value}
theorem Sl.vw (h : Sl w e size A n c xs) (hs : 0 < size) : Vw w A n size xs := by
  refine ⟨h.1, fun hn => ?_⟩
  have hpos : 0 < n * size := Nat.mul_pos hn hs
  obtain ⟨g, rfl, hg, _⟩ := h.cell (j := 0) hpos
  refine ⟨g, 0, rfl, hg, fun j u hu => ?_⟩
  have hj : j < n * size := by
    rw [← h.1]; exact (List.getElem?_eq_some_iff.1 hu).1
  obtain ⟨g', hg', _, hc⟩ := h.cell (j := j) hj
  cases hg'
  rw [Nat.zero_add, hc]
  exact hu
theorem Vw.nil (w : World) (size : Nat) : Vw w none 0 size [] := ⟨by simp, fun h => absurd h (by omega)⟩
theorem Vw.zero (w : World) (X : Option Addr) (size : Nat) : Vw w X 0 size [] := ⟨by simp, fun h => absurd h (by omega)⟩
theorem Vw.keep {B : Nat} {S : List Nat} (h : Vw w X m size xs) (k : Keep B S w w') (hb : ∀ g, g ∈ blks X → g < B ∧ g ∉ S) : Vw w' X m size xs := by
  refine ⟨h.1, fun hm => ?_⟩
  obtain ⟨b, o, rfl, hlt, hc⟩ := h.2 hm
  obtain ⟨h4, h5⟩ := hb b (by simp [blks])
  exact ⟨b, o, rfl, Nat.lt_of_lt_of_le hlt k.size, fun j u hu => (k.cell (p := ⟨b, o + j, none⟩) h4 h5).trans (hc j u hu)⟩
theorem Vw.keepS {S : List Nat} (h : Vw w X m size xs) (k : Keep w.heap.size S w w') (hb : ∀ g, g ∈ blks X → g ∉ S) : Vw w' X m size xs := by
  refine ⟨h.1, fun hm => ?_⟩
  obtain ⟨b, o, rfl, hlt, hc⟩ := h.2 hm
  exact ⟨b, o, rfl, Nat.lt_of_lt_of_le hlt k.size, fun j u hu => (k.cell (p := ⟨b, o + j, none⟩) hlt (hb b (by simp [blks]))).trans (hc j u hu)⟩
theorem Vw.keepP {S : List Nat} (h : Vw w X m size xs) (k : Keep w.heap.size S w w') (hb : 0 < m → ∀ g, g ∈ blks X → g ∉ S) : Vw w' X m size xs := by
  refine ⟨h.1, fun hm => ?_⟩
  obtain ⟨b, o, rfl, hlt, hc⟩ := h.2 hm
  exact ⟨b, o, rfl, Nat.lt_of_lt_of_le hlt k.size, fun j u hu => (k.cell (p := ⟨b, o + j, none⟩) hlt (hb hm b (by simp [blks]))).trans (hc j u hu)⟩
theorem Vw.keep0 (h : Vw w X m size xs) (k : Keep w.heap.size [] w w') : Vw w' X m size xs := h.keepS k (by simp)
theorem Vw.alloc (h : Vw w X m size xs) (o : Obj) : Vw (w.alloc o) X m size xs := h.keep0 ((Keep.refl _ _ _).alloc (Nat.le_refl _) o)
theorem Vw.drew (h : Vw w X m size xs) : Vw w.drew X m size xs := h
theorem Vw.drewN (h : Vw w X m size xs) (k : Nat) : Vw (w.drewN k) X m size xs := h
theorem Vw.far {p : Addr} (h : Vw w X m size xs) (u : Value) (hp : p.block ∉ blks X) : Vw (w.setCell p u) X m size xs :=
  h.keepS (S := [p.block]) ((Keep.refl _ _ _).setCell (.inr (by simp)) u) (fun g hg => by simp; rintro rfl; exact hp hg)
theorem Vw.drop {b o k : Nat} (h : Vw w (some ⟨b, o, none⟩) m 1 xs) (hk : k ≤ m) : Vw w (some ⟨b, o + k, none⟩) (m - k) 1 (xs.drop k) := by
  refine ⟨by have := h.1; simp; omega, fun hm => ?_⟩
  obtain ⟨b', o', hX, hlt, hc⟩ := h.2 (by omega)
  injection hX with hX
  injection hX with h1 h2
  subst h1; subst h2
  refine ⟨b, o + k, rfl, hlt, fun j u hu => ?_⟩
  rw [List.getElem?_drop] at hu
  have := hc (k + j) u hu
  rwa [← Nat.add_assoc] at this
theorem Vw.take {k : Nat} (h : Vw w X m 1 xs) (hk : k ≤ m) : Vw w X k 1 (xs.take k) := by
  refine ⟨by have := h.1; simp; omega, fun hm => ?_⟩
  obtain ⟨b, o, hX, hlt, hc⟩ := h.2 (by omega)
  refine ⟨b, o, hX, hlt, fun j u hu => hc j u ?_⟩
  rw [List.getElem?_take] at hu
  split at hu
  · exact hu
  · cases hu
theorem Vw.at_ (h : Vw w X m 1 xs) {k : Nat} (hk : k < m) : ∃ b o u, X = some ⟨b, o, none⟩ ∧ b < w.heap.size ∧ xs[k]? = some u ∧ w.cell? ⟨b, o + k, none⟩ = some u := by
  obtain ⟨b, o, rfl, hlt, hc⟩ := h.2 (by omega)
  have hl : k < xs.length := by have := h.1; omega
  exact ⟨b, o, xs[k], rfl, hlt, List.getElem?_eq_getElem hl, hc k _ (List.getElem?_eq_getElem hl)⟩
end

section
variable {P : Program} (w : World)
theorem run_appV (t ty e : TypeId) (i : TypeInfo) (z : Value) (size bytes : Nat) (ht : P.underlying t = some (.slice e)) (hi : P.info? e = some i) (hz : i.zero = some z)
    (hsize : i.size = size) (hby : i.bytes = bytes) (hzs : z.cells.size = size) (hsz : 0 < size)
    (A : Option Addr) (n cp : Nat) (xs : List Value) (hown : Sl w e size A n cp xs)
    (X : Option Addr) (m c : Nat) (news : List Value) (hnews : Vw w X m size news) (h1 : ∀ u ∈ news, u.oneCell' = true)
    (hbd : 1 ≤ bytes) (hbd2 : (n + m) * bytes ≤ 140737488355328) :
    ∃ A' c' w', (Builtin.append_ #[t, t] ty #[.slice A n cp, .slice X m c]).run P w = .ok (.slice A' (n + m) c') w' ∧ Sl w' e size A' (n + m) c' (xs ++ news) ∧ Keep w.heap.size (blks A) w w' ∧
      (∀ g, g ∈ blks A' → g ∈ blks A ∨ g = w.heap.size) := by
  have hb : (n + m) * 1 ≤ (n + m) * bytes := Nat.mul_le_mul (Nat.le_refl _) hbd
  cases X with
  | none =>
    have hm : m = 0 := by
      rcases Nat.eq_zero_or_pos m with h0 | h0
      · exact h0
      · obtain ⟨b, o, h, _⟩ := hnews.2 h0; cases h
    subst hm
    have hn : news = [] := List.eq_nil_of_length_eq_zero (by simpa using hnews.1)
    subst hn
    refine ⟨A, cp, w, ?_, by simpa using hown, Keep.refl _ _ _, fun g hg => .inl hg⟩
    rcases hown.2 with ⟨hv, rfl⟩ | ⟨g, cap, cur, hv, _, _, hnc, _⟩
    · rw [hv]
      injection hv with h1 h2 h3
      simp [Builtin.append_, run_underlying ht, sizeOf, typeInfo, hi, Builtin.lenOf, Builtin.firstCells, h1, h3]
    · rw [hv]
      injection hv with h1 h2 h3
      simp [Builtin.append_, run_underlying ht, sizeOf, typeInfo, hi, Builtin.lenOf, Builtin.firstCells, hnc, storeCells, h1, h3]
  | some ad =>
    obtain ⟨v', w', hr, h2, h3, h4, h5⟩ := run_append_own_at (P := P) w 0 t ty e i z size bytes ht hi hz hsize hby hzs hsz (.slice A n cp) n xs hown ad m c news hnews.1 (fun j u hu => by
      have hm : 0 < m := by
        rcases Nat.eq_zero_or_pos m with h0 | h0
        · subst h0
          have hn : news = [] := List.eq_nil_of_length_eq_zero (by simpa using hnews.1)
          subst hn
          simp at hu
        · exact h0
      obtain ⟨b, o, hX, _, hc⟩ := hnews.2 hm
      cases hX
      have hadd : (⟨b, o, none⟩ : Addr).add j = ⟨b, o + j, none⟩ := by unfold Addr.add; split <;> simp_all
      rw [hadd]
      exact hc j u hu) h1 (by unfold maxLen; omega) (by omega) (Nat.zero_le _)
    obtain ⟨A', c', hv⟩ : ∃ A' c', v' = .slice A' (n + m) c' := by
      rcases h2.2 with ⟨hv, hn⟩ | ⟨g, cap, cur, hv, _⟩
      · exact ⟨none, 0, by rw [hv, hn]⟩
      · exact ⟨_, _, hv⟩
    subst hv
    refine ⟨A', c', w', hr, h2, Keep.of_grown h3 (Nat.le_refl _) fun k hk _ => ownBlock_blks A n cp k hk, fun g hg => ?_⟩
    have hgo : (Value.slice A' (n + m) c').ownBlock = some g := by
      cases A' with
      | none => simp [blks] at hg
      | some ad' => simp [blks] at hg; simp [Value.ownBlock, hg]
    rcases h5 with h5 | h5
    · exact .inl (ownBlock_blks A n cp g (h5 ▸ hgo))
    · rw [hgo] at h5
      exact .inr (Option.some.inj h5)
theorem wp_appV {o : Oper} {a : Act} {K : Act → World → Prop} {Q : Exit → Act → World → Prop} (s x : Operand) (t : TypeId)
    (ho : o.op = .call { callee := .builtin .append, args := #[s, x], argTypes := #[t, t] })
    (e : TypeId) (i : TypeInfo) (z : Value) (size bytes : Nat) (ht : P.underlying t = some (.slice e)) (hi : P.info? e = some i) (hz : i.zero = some z)
    (hsize : i.size = size) (hby : i.bytes = bytes) (hzs : z.cells.size = size) (hsz : 0 < size)
    (A : Option Addr) (n cp : Nat) (xs : List Value) (hs : a.eval s = .slice A n cp) (hown : Sl w e size A n cp xs)
    (X : Option Addr) (m c : Nat) (news : List Value) (hx : a.eval x = .slice X m c) (hnews : Vw w X m size news) (h1 : ∀ u ∈ news, u.oneCell' = true)
    (hbd : 1 ≤ bytes) (hbd2 : (n + m) * bytes ≤ 140737488355328)
    (h : ∀ A' c' w', Sl w' e size A' (n + m) c' (xs ++ news) → Keep w.heap.size (blks A) w w' → (∀ g, g ∈ blks A' → g ∈ blks A ∨ g = w.heap.size) → K (a.put o.dst (.slice A' (n + m) c')) w') :
    o.wp P a w K Q := by
  obtain ⟨A', c', w', hr, h2, h3, h4⟩ := run_appV (P := P) w t o.type e i z size bytes ht hi hz hsize hby hzs hsz A n cp xs hown X m c news hnews h1 hbd hbd2
  unfold Oper.wp execOp
  simp only [ho, resolve, invoke, builtin, Sem.run_bind, Sem.run_pure, Result.andThen_ok, List.map_toArray, List.map_cons, List.map_nil, hs, hx, hr]
  exact h A' c' w' h2 h3 h4
theorem wpList_appV {ops : Array Oper} {rest : List Oper} {o : Oper} {a : Act} {Q : Exit → Act → World → Prop} (hgd : o.guard = none) (s x : Operand) (t : TypeId)
    (ho : o.op = .call { callee := .builtin .append, args := #[s, x], argTypes := #[t, t] })
    (e : TypeId) (i : TypeInfo) (z : Value) (size bytes : Nat) (ht : P.underlying t = some (.slice e)) (hi : P.info? e = some i) (hz : i.zero = some z)
    (hsize : i.size = size) (hby : i.bytes = bytes) (hzs : z.cells.size = size) (hsz : 0 < size)
    (A : Option Addr) (n cp : Nat) (xs : List Value) (hs : a.eval s = .slice A n cp) (hown : Sl w e size A n cp xs)
    (X : Option Addr) (m c : Nat) (news : List Value) (hx : a.eval x = .slice X m c) (hnews : Vw w X m size news) (h1 : ∀ u ∈ news, u.oneCell' = true)
    (hbd : 1 ≤ bytes) (hbd2 : (n + m) * bytes ≤ 140737488355328)
    (h : ∀ A' c' w', Sl w' e size A' (n + m) c' (xs ++ news) → Keep w.heap.size (blks A) w w' → (∀ g, g ∈ blks A' → g ∈ blks A ∨ g = w.heap.size) → wpList P ops Q rest (a.put o.dst (.slice A' (n + m) c')) w') :
    wpList P ops Q (o :: rest) a w :=
  wpList_plain hgd fun _ hK => wp_appV w s x t ho e i z size bytes ht hi hz hsize hby hzs hsz A n cp xs hs hown X m c news hx hnews h1 hbd hbd2 fun A' c' w' h2 h3 h4 => hK _ _ (h A' c' w' h2 h3 h4)
theorem step_appV {ops : Array Oper} {o : Oper} {a : Act} {K : Act → World → Prop} {Q : Exit → Act → World → Prop} {E : Prop} (hgd : o.guard = none) (s x : Operand) (t : TypeId)
    (ho : o.op = .call { callee := .builtin .append, args := #[s, x], argTypes := #[t, t] })
    (e : TypeId) (i : TypeInfo) (z : Value) (size bytes : Nat) (ht : P.underlying t = some (.slice e)) (hi : P.info? e = some i) (hz : i.zero = some z)
    (hsize : i.size = size) (hby : i.bytes = bytes) (hzs : z.cells.size = size) (hsz : 0 < size)
    (A : Option Addr) (n cp : Nat) (xs : List Value) (hs : a.eval s = .slice A n cp) (hown : Sl w e size A n cp xs)
    (X : Option Addr) (m c : Nat) (news : List Value) (hx : a.eval x = .slice X m c) (hnews : Vw w X m size news) (h1 : ∀ u ∈ news, u.oneCell' = true)
    (hbd : 1 ≤ bytes) (hbd2 : (n + m) * bytes ≤ 140737488355328)
    (h : ∀ A' c' w', Sl w' e size A' (n + m) c' (xs ++ news) → Keep w.heap.size (blks A) w w' → (∀ g, g ∈ blks A' → g ∈ blks A ∨ g = w.heap.size) → K (a.put o.dst (.slice A' (n + m) c')) w') :
    if Region.wanted o (yielded ops a.tmps) = true then Oper.wp P o a w K Q else E := by
  have hw : Region.wanted o (yielded ops a.tmps) = true := by simp [Region.wanted, hgd]
  rw [if_pos hw]
  exact wp_appV w s x t ho e i z size bytes ht hi hz hsize hby hzs hsz A n cp xs hs hown X m c news hx hnews h1 hbd hbd2 h
end
end Go.Proofs.Ytfkbcflgbjncdaa
