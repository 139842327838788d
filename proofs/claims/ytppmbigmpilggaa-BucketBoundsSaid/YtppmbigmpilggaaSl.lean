/- General lemmas over any program: a slice of the call's own, whatever its address; append to it. -/
import Derived.Test.YtppmbigmpilggaaLL
import Derived.Maps.AppendAt
import Derived.Deep.AppendLies
import Derived.OwnWalk
import Derived.Laws.OwnMore
namespace Go.Proofs.Ytppmbigmpilggaa
set_option linter.unusedVariables false
set_option linter.unusedSimpArgs false
open Go.RowKit

/-- the blocks of a slice's address -/
def blks (A : Option Addr) : List Nat := match A with | some a => [a.block] | none => []

/-- the slice value '.slice A n c' owns the cells xs (n elements of 'size' cells each): nil, or at the head of a row -/
def Sl (w : World) (e : TypeId) (size : Nat) (A : Option Addr) (n c : Nat) (xs : List Value) : Prop := w.ownsRow 0 e size (.slice A n c) n xs

theorem Sl.nil (w : World) (e : TypeId) (size : Nat) : Sl w e size none 0 0 [] := World.ownsRow_nil w 0 e size

section
variable {w w' : World} {e : TypeId} {size n c : Nat} {A : Option Addr} {xs : List Value}
theorem Sl.length (h : Sl w e size A n c xs) : xs.length = n * size := h.1
theorem Sl.form (h : Sl w e size A n c xs) : (A = none ∧ n = 0 ∧ c = 0) ∨ ∃ g, A = some ⟨g, 0, none⟩ ∧ g < w.heap.size ∧ n ≤ c ∧ c ≤ maxLen := by
  rcases h.2 with ⟨hv, hn⟩ | ⟨g, cap, cur, hv, _, hg, hc, hm, _⟩
  · injection hv with h1 h2 h3
    exact .inl ⟨h1, hn, h3⟩
  · injection hv with h1 h2 h3
    subst h3
    exact .inr ⟨g, h1, (Array.getElem?_eq_some_iff.1 hg).1, hc, hm⟩
theorem Sl.blk (h : Sl w e size A n c xs) {g : Nat} (hg : g ∈ blks A) : g < w.heap.size := by
  rcases h.form with ⟨rfl, _⟩ | ⟨g', rfl, hlt, _⟩
  · simp [blks] at hg
  · simp [blks] at hg; omega
theorem Sl.keep {B : Nat} {S : List Nat} (h : Sl w e size A n c xs) (k : Keep B S w w') (hb : ∀ g, g ∈ blks A → g < B ∧ g ∉ S) : Sl w' e size A n c xs := by
  refine ⟨h.1, ?_⟩
  rcases h.2 with hn | ⟨g, cap, cur, hv, h0, hg, rest⟩
  · exact .inl hn
  · injection hv with h1 h2 h3
    subst h1; subst h3
    obtain ⟨h4, h5⟩ := hb g (by simp [blks])
    exact .inr ⟨g, c, cur, rfl, h0, (k.block g h4 h5).trans hg, rest⟩
theorem Sl.keepS {S : List Nat} (h : Sl w e size A n c xs) (k : Keep w.heap.size S w w') (hb : ∀ g, g ∈ blks A → g ∉ S) : Sl w' e size A n c xs :=
  h.keep k fun g hg => ⟨h.blk hg, hb g hg⟩
theorem Sl.keep0 (h : Sl w e size A n c xs) (k : Keep w.heap.size [] w w') : Sl w' e size A n c xs := h.keepS k (by simp)
theorem Sl.alloc (h : Sl w e size A n c xs) (o : Obj) : Sl (w.alloc o) e size A n c xs := World.ownsRow.alloc h o
theorem Sl.drew (h : Sl w e size A n c xs) : Sl w.drew e size A n c xs := h
theorem Sl.drewN (h : Sl w e size A n c xs) (k : Nat) : Sl (w.drewN k) e size A n c xs := h
/-- a cell of it -/
theorem Sl.cell (h : Sl w e size A n c xs) {j : Nat} (hj : j < n * size) : ∃ g, A = some ⟨g, 0, none⟩ ∧ g < w.heap.size ∧ w.cell? ⟨g, j, none⟩ = xs[j]? := by
  rcases h.form with ⟨_, rfl, _⟩ | ⟨g, rfl, hlt, _⟩
  · simp at hj
  · exact ⟨g, rfl, hlt, World.ownsRow.cellAt h j hj⟩
theorem Sl.far {p : Addr} (h : Sl w e size A n c xs) (u : Value) (hp : p.block ∉ blks A) : Sl (w.setCell p u) e size A n c xs :=
  h.keepS (S := [p.block]) ((Keep.refl _ _ _).setCell (.inr (by simp)) u) (fun g hg => by simp; rintro rfl; exact hp hg)
theorem blks_some {g o : Nat} {s : Option Nat} : blks (some ⟨g, o, s⟩) = [g] := rfl
/-- a block of another element type is none of the row's -/
theorem Sl.ne_blk {g : Nat} {t : TypeId} {cs : Array Value} (h : Sl w e size A n c xs) (hb : Blk w g t cs) (hne : e ≠ t) : g ∉ blks A := by
  rcases h.2 with ⟨hv, _⟩ | ⟨g', cap, cur, hv, _, hg, _⟩
  · injection hv with h1; subst h1; simp [blks]
  · injection hv with h1; subst h1
    simp only [blks, List.mem_singleton]
    intro e'
    subst e'
    exact Blk.ne_ (t := e) hg hb hne rfl

theorem ownBlock_blks (A : Option Addr) (n c : Nat) (k : Nat) (h : (Value.slice A n c).ownBlock = some k) : k ∈ blks A := by
  cases A with
  | none => simp [Value.ownBlock] at h
  | some a => simp [Value.ownBlock] at h; simp [blks, h]
end

section
variable {P : Program} (w : World)
/-- append: the new slice's address is the old one's block or a new block -/
theorem wpList_app {ops : Array Oper} {rest : List Oper} {o : Oper} {a : Act} {Q : Exit → Act → World → Prop} (hgd : o.guard = none) (s x : Operand) (t : TypeId)
    (ho : o.op = .call { callee := .builtin .append, args := #[s, x], argTypes := #[t, t] })
    (e : TypeId) (i : TypeInfo) (z : Value) (size bytes : Nat) (ht : P.underlying t = some (.slice e)) (hi : P.info? e = some i) (hz : i.zero = some z)
    (hsize : i.size = size) (hby : i.bytes = bytes) (hzs : z.cells.size = size) (hsz : 0 < size)
    (A : Option Addr) (n cp : Nat) (xs : List Value) (hs : a.eval s = .slice A n cp) (hown : Sl w e size A n cp xs)
    (ad : Addr) (m c : Nat) (news : List Value) (hx : a.eval x = .slice (some ad) m c) (hl : news.length = m * size) (hnews : ∀ j u, news[j]? = some u → w.cell? (ad.add j) = some u) (h1 : ∀ u ∈ news, u.oneCell' = true)
    (h63 : n + m ≤ maxLen) (hbytes : (n + m) * bytes ≤ 140737488355328)
    (h : ∀ A' c' w', Sl w' e size A' (n + m) c' (xs ++ news) → Keep w.heap.size (blks A) w w' → (∀ g, g ∈ blks A' → g ∈ blks A ∨ g = w.heap.size) → wpList P ops Q rest (a.put o.dst (.slice A' (n + m) c')) w') :
    wpList P ops Q (o :: rest) a w := by
  refine wpList_plain hgd fun K hK => ?_
  obtain ⟨v', w', hr, h2, h3, h4, h5⟩ := run_append_own_at (P := P) w 0 t o.type e i z size bytes ht hi hz hsize hby hzs hsz (.slice A n cp) n xs hown ad m c news hl hnews h1 h63 hbytes (Nat.zero_le _)
  obtain ⟨A', c', hv⟩ : ∃ A' c', v' = .slice A' (n + m) c' := by
    rcases h2.2 with ⟨hv, hn⟩ | ⟨g, cap, cur, hv, _⟩
    · exact ⟨none, 0, by rw [hv, hn]⟩
    · exact ⟨_, _, hv⟩
  subst hv
  unfold Oper.wp execOp
  simp only [ho, resolve, invoke, builtin, Sem.run_bind, Sem.run_pure, Result.andThen_ok, List.map_toArray, List.map_cons, List.map_nil, hs, hx, hr]
  refine hK _ _ (h A' c' w' h2 (Keep.of_grown h3 (Nat.le_refl _) fun k hk _ => ownBlock_blks A n cp k hk) fun g hg => ?_)
  have hgo : (Value.slice A' (n + m) c').ownBlock = some g := by
    cases A' with
    | none => simp [blks] at hg
    | some ad' => simp [blks] at hg; simp [Value.ownBlock, hg]
  rcases h5 with h5 | h5
  · exact .inl (ownBlock_blks A n cp g (h5 ▸ hgo))
  · rw [hgo] at h5
    exact .inr (Option.some.inj h5)
/-- append of one element, which lies in a block of its own -/
theorem wpList_app1 {ops : Array Oper} {rest : List Oper} {o : Oper} {a : Act} {Q : Exit → Act → World → Prop} (hgd : o.guard = none) (s x : Operand) (t : TypeId)
    (ho : o.op = .call { callee := .builtin .append, args := #[s, x], argTypes := #[t, t] })
    (e : TypeId) (i : TypeInfo) (z : Value) (size bytes : Nat) (ht : P.underlying t = some (.slice e)) (hi : P.info? e = some i) (hz : i.zero = some z)
    (hsize : i.size = size) (hby : i.bytes = bytes) (hzs : z.cells.size = size) (hsz : 0 < size)
    (A : Option Addr) (n cp : Nat) (xs : List Value) (hs : a.eval s = .slice A n cp) (hown : Sl w e size A n cp xs)
    (g c : Nat) (cs : Array Value) (hx : a.eval x = .slice (some ⟨g, 0, none⟩) 1 c) (hsrc : Blk w g e cs) (hcs : cs.size = size) (h1 : cs.toList.all (fun u => u.oneCell') = true)
    (hbd : n + 1 ≤ 1000000000) (hbd2 : bytes ≤ 100000)
    (h : ∀ A' c' w', Sl w' e size A' (n + 1) c' (xs ++ cs.toList) → Keep w.heap.size (blks A) w w' → (∀ g, g ∈ blks A' → g ∈ blks A ∨ g = w.heap.size) → wpList P ops Q rest (a.put o.dst (.slice A' (n + 1) c')) w') :
    wpList P ops Q (o :: rest) a w := by
  have hb : (n + 1) * bytes ≤ 1000000000 * 100000 := Nat.mul_le_mul hbd hbd2
  refine wpList_app w hgd s x t ho e i z size bytes ht hi hz hsize hby hzs hsz A n cp xs hs hown ⟨g, 0, none⟩ 1 c cs.toList hx (by simpa using hcs) (fun j u hu => ?_)
    (fun u hu => List.all_eq_true.1 h1 u hu) (by unfold maxLen; omega) (by omega) h
  have hadd : (⟨g, 0, none⟩ : Addr).add j = ⟨g, j, none⟩ := by unfold Addr.add; split <;> simp_all
  rw [hadd, hsrc.cell j]
  simpa using hu
end
end Go.Proofs.Ytppmbigmpilggaa
