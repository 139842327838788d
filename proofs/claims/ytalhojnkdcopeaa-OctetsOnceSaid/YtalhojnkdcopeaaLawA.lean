/- The law package of the octets: awake. -/
import Derived.Test.YtalhojnkdcopeaaRefX
namespace Go.Proofs.Ytalhojnkdcopeaa
set_option linter.unusedVariables false
set_option linter.unusedSimpArgs false
open Go.RowKit
def LawPost (w : World) (e : Ending) (w' : World) : Prop := e = .returned (.bool true) ∧ Keep w.heap.size [] w w'
/-- a world W on the way of a call that began in w: a writer of the call's own with the octets L -/
structure WT (w W : World) (g : Nat) (A : Option Addr) (L : List Int) : Prop where
  keep : Keep w.heap.size [] w W
  wr : Wr W g A L
  hg : w.heap.size ≤ g
  hA : ∀ x, x ∈ blks A → w.heap.size ≤ x
theorem Wr.lt {w : World} {g : Nat} {A : Option Addr} {L : List Int} (h : Wr w g A L) : g < w.heap.size := by
  obtain ⟨n, c, _, hb, _⟩ := h; exact hb.lt
theorem Wr.blk {w : World} {g : Nat} {A : Option Addr} {L : List Int} (h : Wr w g A L) : ∀ x, x ∈ blks A → x < w.heap.size := by
  obtain ⟨n, c, _, _, hs⟩ := h; exact fun x hx => hs.blk hx
theorem Wr.keepS {w w' : World} {g : Nat} {A : Option Addr} {L : List Int} {S : List Nat} (h : Wr w g A L) (k : Keep w.heap.size S w w') (hg : g ∉ S) (hx : ∀ x, x ∈ blks A → x ∉ S) : Wr w' g A L := by
  obtain ⟨n, c, h1, h2, h3⟩ := h
  exact ⟨n, c, h1, h2.keepS k hg, h3.keepS k hx⟩
theorem WT.next {w W W' : World} {g : Nat} {A A' : Option Addr} {L L' : List Int} (h : WT w W g A L) (hW : Wr W' g A' L') (hk : Keep W.heap.size (g :: blks A) W W')
    (hb : ∀ x, x ∈ blks A' → x ∈ blks A ∨ W.heap.size ≤ x) : WT w W' g A' L' := by
  have hz := h.keep.size
  refine ⟨h.keep.chain (Nat.le_refl _) hk (fun x hx => ?_), hW, h.hg, fun x hx => ?_⟩
  · rcases List.mem_cons.1 hx with rfl | hx
    · exact h.hg
    · exact h.hA x hx
  · rcases hb x hx with h' | h'
    · exact h.hA x h'
    · omega
theorem WT.other {w W W' : World} {g : Nat} {A : Option Addr} {L : List Int} (h : WT w W g A L) (hk : Keep W.heap.size [] W W') : WT w W' g A L :=
  ⟨h.keep.chain0 (Nat.le_refl _) hk, h.wr.keepS hk (by simp) (by simp), h.hg, h.hA⟩
theorem WT.alloc {w W : World} {g : Nat} {A : Option Addr} {L : List Int} (h : WT w W g A L) (o : Obj) : WT w (W.alloc o) g A L :=
  h.other ((Keep.refl _ _ _).alloc (Nat.le_refl _) o)
theorem vn_1 : vn (zz (-1)).toNat = [1] := vn_small (z := 1) (by decide)
theorem vn_4 : vn (zz (2 : Nat)).toNat = [4] := vn_small (z := 4) (by decide)
theorem vn_128 : vn (zz 64).toNat = [128, 1] := (vn_big (z := 128) (by decide)).trans (congrArg _ (vn_small (z := 1) (by decide)))
theorem wint_v (w : World) (g : Nat) (A : Option Addr) (L V : List Int) (n : Int) (hV : vn (zz n).toNat = V) (h0 : -9223372036854775808 ≤ n) (h1 : n ≤ 9223372036854775807) (hL : L.length + 16 ≤ 900000000) (hw : Wr w g A L) :
    Calls Try.prog 14 #[bptr g, .int .i64 n] w fun e w' =>
      e = .returned (bptr g) ∧ ∃ A', Wr w' g A' (L ++ V) ∧ Keep w.heap.size (g :: blks A) w w' ∧ ∀ x, x ∈ blks A' → x ∈ blks A ∨ w.heap.size ≤ x := hV ▸ wint_any w g A L n h0 h1 hL hw
theorem wblob_v (w : World) (g : Nat) (A : Option Addr) (L V : List Int) (X : Option Addr) (m c : Nat) (B : List Int) (hV : vn (zz m).toNat = V) (hm : m ≤ 100000000) (hL : L.length ≤ 100000000) (hw : Wr w g A L)
    (hv : Vw w X m 1 (octs B)) (hX : ∀ x, x ∈ blks X → x ∉ g :: blks A) :
    Calls Try.prog 24 #[bptr g, .slice X m c] w fun e w' =>
      e = .returned (bptr g) ∧ ∃ A', Wr w' g A' (L ++ V ++ B) ∧ Keep w.heap.size (g :: blks A) w w' ∧ ∀ x, x ∈ blks A' → x ∈ blks A ∨ w.heap.size ≤ x := hV ▸ wblob_any w g A L X m c B hm hL hw hv hX
set_option maxHeartbeats 4000000 in
theorem awake_any (w : World) : Calls Try.prog 7 #[] w (LawPost w) := by
  go_enter Try.func7, Try.ntmps7
  go_wp2_with fail
  refine (wnew_any _).mono ?_
  rintro e w1 ⟨g, rfl, hg, hw, hk⟩
  have W1 : Hid (WT w w1 g none []) := ⟨hk, hw, hg, by simp [blks]⟩
  clear hg hw hk
  go_wp2_with fail
  refine (wint_v _ g none [] [1] (-1) vn_1 (by omega) (by omega) (by simp) W1.out.wr).mono ?_
  rintro e w2 ⟨rfl, A2, hw, hk, hb⟩
  have W2 := Lib.hid (W1.out.next hw hk hb)
  clear hw hk hb
  go_wp2_with fail
  refine (wint_v _ g A2 _ [128, 1] 64 vn_128 (by omega) (by omega) (by simp) W2.out.wr).mono ?_
  rintro e w3 ⟨rfl, A3, hw, hk, hb⟩
  have W3 := Lib.hid (W2.out.next hw hk hb)
  clear hw hk hb
  go_wp2_with fail
  have hVB : Hid (Vw (w3.alloc (.cells #[.int .u8 97, .int .u8 98] 5)) (some ⟨w3.heap.size, 0, none⟩) 2 1 (octs [97, 98])) :=
    Sl.vw (World.ownsRow_lit w3 #[.int .u8 97, .int .u8 98] 2 (Nat.zero_le _) (by unfold maxLen; omega) rfl) (by omega)
  refine (wblob_v _ g A3 _ [4] _ 2 2 [97, 98] vn_4 (by omega) (by simp) (W3.out.alloc _).wr hVB.out (fun x hx => by
    have h1 := W3.out.wr.lt
    have h2 := W3.out.wr.blk
    simp [blks] at hx
    subst hx
    intro hm
    rcases List.mem_cons.1 hm with h | h
    · omega
    · have := h2 _ h; omega)).mono ?_
  rintro e w4 ⟨rfl, A4, hw, hk, hb⟩
  have W4 := Lib.hid ((W3.out.alloc _).next hw hk hb)
  clear hw hk hb
  go_wp2_with fail
  refine (wbytes_any _ g A4 _ W4.out.wr (by simp)).mono ?_
  rintro e w5 ⟨A5, n, c, rfl, hn, hs, hk, hb⟩
  have K5 : Hid (Keep w.heap.size [] w w5) := W4.out.keep.chain0 (Nat.le_refl _) hk
  have hcv : ∀ o : Obj, (convert 22 9 (.slice A5 n c)).run Try.prog (w5.alloc o) = .ok (.string ⟨#[1, 128, 1, 4, 97, 98]⟩) (w5.alloc o) := fun o =>
    conv_str 22 9 5 Try.underlying22 Try.underlying5 Try.underlying9 A5 n c _ ((hs.alloc o).vw (by omega))
  clear hs hk hb hn
  go_wp2_with fail
  refine (wint_nil _ _).mono ?_
  rintro e w' ⟨rfl, rfl⟩
  go_wp2_with fail
  refine (wbytes_nil _).mono ?_
  rintro e w' ⟨rfl, rfl⟩
  go_wp2_with fail
  refine (rint_nil _).mono ?_
  rintro e w' ⟨rfl, rfl⟩
  go_wp2_with fail
  refine (rfailed_nil _).mono ?_
  rintro e w' ⟨rfl, rfl⟩
  go_wp2_with fail
  refine (rend_nil _).mono ?_
  rintro e w' ⟨rfl, rfl⟩
  go_wp2_with fail
  refine (rend_zero _ _ _ _ (Blk.new _ _ _)).mono ?_
  rintro e w' ⟨rfl, rfl⟩
  go_wp2_with fail
  refine (rleft_zero _ _ _ _ (Blk.new _ _ _)).mono ?_
  rintro e w' ⟨rfl, rfl⟩
  go_wp2_with fail
  go_ret
  exact ⟨rfl, K5.out.alloc K5.out.size _⟩
end Go.Proofs.Ytalhojnkdcopeaa
