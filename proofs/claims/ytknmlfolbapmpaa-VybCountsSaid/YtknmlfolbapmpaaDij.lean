import Derived.Test.YtknmlfolbapmpaaMade
namespace Go.Proofs.Ytknmlfolbapmpaa
open Go Go.RowKit

/-- dijkstra.New. -/
theorem djNew_tr (m : Nat) : Tr Try.prog 23 #[.pointer (some ⟨m, 0, none⟩)] 1 (fun b : Nat => .pointer (some ⟨b, 0, none⟩)) (fun b => boxP b (.pointer (some ⟨m, 0, none⟩)) 97) := by
  intro F w h
  go_enter Try.func23, Try.ntmps23
  go_wp2
  go_ret
  exact ⟨w.heap.size, rfl, (h.boxNew _ _).unmul1⟩
/-- dijkstra.Barrier.Pre: nothing. -/
theorem djPre_tr (b x y : Value) : Tr0 Try.prog 24 #[b, x, y] 1 (.tuple #[]) 1 := by
  intro F w h
  go_enter Try.func24, Try.ntmps24
  go_wp2
  go_end0
  exact ⟨rfl, h⟩
theorem djRemark_tr (b : Value) : Tr0 Try.prog 26 #[b] 1 (.tuple #[]) 1 := by
  intro F w h
  go_enter Try.func26, Try.ntmps26
  go_wp2
  go_end0
  exact ⟨rfl, h⟩
theorem djReset_tr (b : Value) : Tr0 Try.prog 27 #[b] 1 (.tuple #[]) 1 := by
  intro F w h
  go_enter Try.func27, Try.ntmps27
  go_wp2
  go_end0
  exact ⟨rfl, h⟩
theorem djRescans_tr (b : Value) : Tr0 Try.prog 71 #[b] 1 (.bool true) 1 := by
  intro F w h
  go_enter Try.func71, Try.ntmps71
  go_wp2
  go_ret
  exact ⟨rfl, h⟩
set_option maxRecDepth 100000 in
/-- dijkstra.Barrier.Post: what is written is shaded. -/
theorem djPost_tr (b : Nat) (i : MkId) (M : Mk) (x y : Int) (z : Nat) (bk er : Bool) (hz : z < i.N) : Tr0 Try.prog 25 #[.pointer (some ⟨b, 0, none⟩), .agg #[.int .i64 x, .int .i64 y, .int .i64 z, .bool bk, .bool er]]
    (boxP b (.pointer (some ⟨i.m, 0, none⟩)) 97 * MarkP i M) (.tuple #[]) (boxP b (.pointer (some ⟨i.m, 0, none⟩)) 97 * MarkP i (M.shade i.room z)) := by
  intro F w h
  have h1 := h.grown0 (World.grownBy_alloc w (.cells #[.int .i64 x, .int .i64 y, .int .i64 z, .bool bk, .bool er] 45) none)
  have c0 := h1.box
  have h2 := h1.drew
  have c0' := h2.box
  have hc := (shade_tr i M z hz).use (h2.to (SP.mul_comm _ _))
  have Hc := Lib.hid hc
  clear hc h1 h2 h
  go_enter Try.func25, Try.ntmps25
  go_wp2_with fail
  go_region_with (go_at_call 21; refine Hc.out.mono ?_; rintro e w' ⟨rfl, h1⟩)
  all_goals go_wp2
  all_goals go_end0
  all_goals exact ⟨rfl, by (first | exact h1.to (SP.mul_comm _ _) | skip)⟩
end Go.Proofs.Ytknmlfolbapmpaa
