/- The reference's Raise of a bad event. -/
import Derived.Test.YtlceepknoijndaaERad
import Derived.Test.YtlceepknoijndaaELawB
namespace Go.Proofs.Ytlceepknoijndaa
set_option linter.unusedVariables false
set_option linter.unusedSimpArgs false
open Go.RowKit
theorem kw3 (w : World) (o o2 o3 : Obj) : Keep w.heap.size [] w (((w.alloc o).alloc o2).alloc o3) := (kw2 w o o2).alloc (kw2 w o o2).size o3
def RRPost (w : World) (s : St) (A : Option Addr) (n c : Nat) (O : Option Addr) (m d : Nat) (e : Ending) (w' : World) : Prop := e = .returned (.tuple #[ragg s A n c O m d, .bool false, .int .i64 1]) ∧ Keep w.heap.size [] w w'
set_option maxRecDepth 100000 in
set_option maxHeartbeats 4000000 in
theorem rraise_bad (w : World) (s : St) (A : Option Addr) (n c : Nat) (O : Option Addr) (m d : Nat) (x : Ev) (hbad : badE x) : Calls Try.prog 15 #[ragg s A n c O m d, eagg x] w (RRPost w s A n c O m d) := by
  obtain ⟨h0, h1, h2, h3, h4, h5, h6, h7⟩ := rcell8 (((Blk.new w 42 (rcells s A n c O m d)).alloc (.cells #[.int .i64 x.t, .int .i64 x.id, .int .i64 x.sv, .int .i64 x.vl] 31)).alloc (.cells #[.int .i64 0, .slice none 0 0, .slice none 0 0, .int .i64 0, .int .i64 0, .int .i64 0, .int .i64 0, .int .i64 0] 42))
  have e1 : (w.alloc (.cells (rcells s A n c O m d) 42)).heap.size = w.heap.size + 1 := by simp
  have hb := (Blk.new (w.alloc (.cells (rcells s A n c O m d) 42)) 31 #[.int .i64 x.t, .int .i64 x.id, .int .i64 x.sv, .int .i64 x.vl]).alloc (.cells #[.int .i64 0, .slice none 0 0, .slice none 0 0, .int .i64 0, .int .i64 0, .int .i64 0, .int .i64 0, .int .i64 0] 42)
  rw [e1] at hb
  obtain ⟨d0, d1, d2, d3⟩ := box4 hb
  clear hb e1
  unfold badE at hbad
  by_cases k1 : x.t < 0
  · clear hbad
    go_enter Try.func15, Try.ntmps15
    go_wp2_with fail
    refine bodyPost_ret (v := .tuple #[ragg s A n c O m d, .bool false, .int .i64 1]) (by simp [results, Try.results15, go_sem, h0, h1, h2, h3, h4, h5, h6, h7]) rfl ⟨rfl, ?_⟩
    repeat (first | with_reducible exact kw3 w _ _ _ | with_reducible refine Keep.setN ?_ (by simp <;> omega))
  by_cases k2 : 1099511627776 < x.t
  · clear hbad
    go_enter Try.func15, Try.ntmps15
    go_wp2_with fail
    refine bodyPost_ret (v := .tuple #[ragg s A n c O m d, .bool false, .int .i64 1]) (by simp [results, Try.results15, go_sem, h0, h1, h2, h3, h4, h5, h6, h7]) rfl ⟨rfl, ?_⟩
    repeat (first | with_reducible exact kw3 w _ _ _ | with_reducible refine Keep.setN ?_ (by simp <;> omega))
  by_cases k3 : x.id < 0
  · clear hbad
    go_enter Try.func15, Try.ntmps15
    go_wp2_with fail
    refine bodyPost_ret (v := .tuple #[ragg s A n c O m d, .bool false, .int .i64 1]) (by simp [results, Try.results15, go_sem, h0, h1, h2, h3, h4, h5, h6, h7]) rfl ⟨rfl, ?_⟩
    repeat (first | with_reducible exact kw3 w _ _ _ | with_reducible refine Keep.setN ?_ (by simp <;> omega))
  by_cases k4 : 65535 < x.id
  · clear hbad
    go_enter Try.func15, Try.ntmps15
    go_wp2_with fail
    refine bodyPost_ret (v := .tuple #[ragg s A n c O m d, .bool false, .int .i64 1]) (by simp [results, Try.results15, go_sem, h0, h1, h2, h3, h4, h5, h6, h7]) rfl ⟨rfl, ?_⟩
    repeat (first | with_reducible exact kw3 w _ _ _ | with_reducible refine Keep.setN ?_ (by simp <;> omega))
  by_cases k5 : x.sv < 1
  · clear hbad
    go_enter Try.func15, Try.ntmps15
    go_wp2_with fail
    refine bodyPost_ret (v := .tuple #[ragg s A n c O m d, .bool false, .int .i64 1]) (by simp [results, Try.results15, go_sem, h0, h1, h2, h3, h4, h5, h6, h7]) rfl ⟨rfl, ?_⟩
    repeat (first | with_reducible exact kw3 w _ _ _ | with_reducible refine Keep.setN ?_ (by simp <;> omega))
  have k6 : 4 < x.sv := by
    rcases hbad with h | h | h | h | h
    · omega
    · omega
    · rw [knP_in (by omega) (by omega)] at h; cases h
    · omega
    · exact h
  clear hbad
  go_enter Try.func15, Try.ntmps15
  go_wp2_with fail
  refine bodyPost_ret (v := .tuple #[ragg s A n c O m d, .bool false, .int .i64 1]) (by simp [results, Try.results15, go_sem, h0, h1, h2, h3, h4, h5, h6, h7]) rfl ⟨rfl, ?_⟩
  repeat (first | with_reducible exact kw3 w _ _ _ | with_reducible refine Keep.setN ?_ (by simp <;> omega))
end Go.Proofs.Ytlceepknoijndaa
