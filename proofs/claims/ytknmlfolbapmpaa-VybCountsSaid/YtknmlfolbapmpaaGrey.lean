import Derived.Test.YtknmlfolbapmpaaRow
import Derived.Test.YtknmlfolbapmpaaProg
import Derived.Lib.Hide
import Derived.Handy
import Derived.BigQuiet
import Derived.Deep.QuietTactic
namespace Go.Proofs.Ytknmlfolbapmpaa
open Go Go.RowKit

/-- A reference as a value. -/
def refV (r : Nat) : Value := .int .i64 r
def greyObj (v : Value) (room : Nat) (over : Bool) : Obj := .cells #[v, .int .i64 room, .bool over] 140 (0, 0)
/-- A grey stack. -/
def GreyP (g room : Nat) (over : Bool) (stk : List Nat) : SP :=
  SP.wh (stk.length ≤ room ∧ room ≤ 100000) (SP.ex fun v => pts g (greyObj v room over) * RowP 36 v (stk.map refV))
theorem St.grey {g room : Nat} {over : Bool} {stk : List Nat} {R : SP} {F : Fr} {w : World} : St (GreyP g room over stk * R) F w ↔
    (stk.length ≤ room ∧ room ≤ 100000) ∧ ∃ v, St (pts g (greyObj v room over) * (RowP 36 v (stk.map refV) * R)) F w := by
  unfold GreyP
  rw [St.whm, St.exm]
  simp only [SP.mul_assoc]

theorem greyNew_tr (room : Int) (hr : room ≤ 100000) : Tr Try.prog 76 #[.int .i64 room] 1 (fun g : Nat => .pointer (some ⟨g, 0, none⟩)) (fun g => GreyP g room.toNat false []) := by
  intro F w h
  by_cases h0 : room < 0
  · have e : room.toNat = 0 := by omega
    have He := Lib.hid e; clear e
    go_enter Try.func76, Try.ntmps76
    go_wp2
    go_ret
    refine ⟨w.heap.size, rfl, ?_⟩
    rw [He.out]
    have h1 := h.alloc (greyObj (.slice none 0 0) 0 false)
    rw [RowP.nil 36] at h1
    exact St.unmul1 (St.grey.2 ⟨⟨Nat.zero_le _, by decide⟩, _, by rw [SP.mul_one]; exact h1⟩)
  · have hn : 0 ≤ room := by omega
    obtain ⟨n, rfl⟩ := Int.eq_ofNat_of_zero_le hn
    clear h0 hn
    rw [Int.toNat_natCast]
    go_enter Try.func76, Try.ntmps76
    go_wp2
    go_ret
    refine ⟨w.heap.size, rfl, ?_⟩
    have h1 := h.alloc (greyObj (.slice none 0 0) n false)
    rw [RowP.nil 36] at h1
    exact St.unmul1 (St.grey.2 ⟨⟨Nat.zero_le _, by omega⟩, _, by rw [SP.mul_one]; exact h1⟩)

theorem info_ref : (Try.prog.info? 36).map (fun i => (i.zero, i.size, i.bytes)) = some (some (.int .i64 0), 1, 8) := by kernel_rfl

set_option maxRecDepth 100000 in
/-- Push: there is a place. -/
theorem push_room (g room r : Nat) (over : Bool) (stk : List Nat) (hlt : stk.length < room) :
    Tr0 Try.prog 78 #[.pointer (some ⟨g, 0, none⟩), .int .i64 r] (GreyP g room over stk) (.bool true) (GreyP g room over (stk ++ [r])) := by
  intro F w h
  obtain ⟨⟨_, hr⟩, v, h1⟩ := St.grey.1 h.mul1
  have hb := h1.at
  have c0 : w.cell? ⟨g, 0, none⟩ = some v := by rw [cell_of hb]; rfl
  have c1 : w.cell? ⟨g, 1, none⟩ = some (.int .i64 room) := by rw [cell_of hb]; rfl
  have f0 : w.frozen? ⟨g, 0, none⟩ = false := frozen_of hb
  have h2 := h1
  rw [SP.mul_left_comm] at h2
  obtain ⟨o, cap, hv⟩ := h2.rowSlice
  have hl : (stk.map refV).length = stk.length := by simp
  rw [hl] at hv
  have Hl := Lib.hid hl; clear hl
  subst hv
  obtain ⟨i0, hi, hz0, hz1, hz2⟩ := info_parts info_ref
  go_enter Try.func78, Try.ntmps78
  go_wp2_with fail
  go_quiet (fail)
  rename_i nq
  go_wp2_with (at_builtin; refine wpList_append_st _ rfl (.tmp 22) (.tmp 24) 29 rfl 36 i0 (.int .i64 0) 8 Try.underlying29 hi hz0 hz1 hz2 rfl _ (stk.map refV) rfl ((h2.drewN nq).grown0 (World.grownBy_alloc _ _ none)) ⟨w.heap.size, 0, none⟩ 1 1 [refV r] rfl rfl (box_cell (w.drewN nq) _ _) (one_one rfl) ?h63 ?hb ?_)
  case h63 => rw [Hl.out]; simp only [maxLen, List.length_cons, List.length_nil]; omega
  case hb => rw [Hl.out]; simp only [List.length_cons, List.length_nil]; omega
  intro v' w1 h3
  obtain ⟨o', cap', hv'⟩ := h3.rowSlice
  have hl' : (stk.map refV ++ [refV r]).length = stk.length + 1 := by simp
  rw [hl'] at hv'
  clear hl'
  subst hv'
  rw [SP.mul_left_comm] at h3
  have hb1 := h3.at
  have c2 : w1.cell? ⟨g, 0, none⟩ = some (.slice o stk.length cap) := by rw [cell_of hb1]; rfl
  have f2 : w1.frozen? ⟨g, 0, none⟩ = false := frozen_of hb1
  have h4 : St (pts g (greyObj (.slice o' (stk.length + 1) cap') room over) * _) F _ := h3.set (off := 0) (v := .slice o' (stk.length + 1) cap')
  clear h3 hb1 h1 hb c0 h2 h
  go_wp2
  go_ret
  refine ⟨rfl, ?_⟩
  apply St.unmul1
  refine St.grey.2 ⟨⟨by simp; omega, hr⟩, .slice o' (stk.length + 1) cap', ?_⟩
  rw [List.map_append]
  exact h4

set_option maxRecDepth 100000 in
/-- Push: there is no place. -/
theorem push_over (g room r : Nat) (over : Bool) (stk : List Nat) (hlt : ¬ stk.length < room) :
    Tr0 Try.prog 78 #[.pointer (some ⟨g, 0, none⟩), .int .i64 r] (GreyP g room over stk) (.bool false) (GreyP g room true stk) := by
  intro F w h
  obtain ⟨hr, v, h1⟩ := St.grey.1 h.mul1
  have hb := h1.at
  have c0 : w.cell? ⟨g, 0, none⟩ = some v := by rw [cell_of hb]; rfl
  have c1 : w.cell? ⟨g, 1, none⟩ = some (.int .i64 room) := by rw [cell_of hb]; rfl
  have c2 : w.cell? ⟨g, 2, none⟩ = some (.bool over) := by rw [cell_of hb]; rfl
  have f2 : w.frozen? ⟨g, 2, none⟩ = false := frozen_of hb
  have h2 := h1
  rw [SP.mul_left_comm] at h2
  obtain ⟨o, cap, hv⟩ := h2.rowSlice
  have hl : (stk.map refV).length = stk.length := by simp
  rw [hl] at hv
  clear hl h2
  subst hv
  have hge : room ≤ stk.length := by omega
  clear hlt
  have h4 : St (pts g (greyObj (.slice o stk.length cap) room true) * _) F _ := h1.set (off := 2) (v := .bool true)
  have Hr := Lib.hid hr
  clear hr
  go_enter Try.func78, Try.ntmps78
  go_wp2_with fail
  go_quiet (fail)
  rename_i nq
  go_wp2
  go_ret
  exact ⟨rfl, St.unmul1 (St.grey.2 ⟨Hr.out, _, h4.drewN nq⟩)⟩

set_option maxRecDepth 100000 in
/-- Pop: nothing is there. -/
theorem pop_none (g room : Nat) (over : Bool) :
    Tr0 Try.prog 111 #[.pointer (some ⟨g, 0, none⟩)] (GreyP g room over []) (.tuple #[.int .i64 0, .bool false]) (GreyP g room over []) := by
  intro F w h
  obtain ⟨hr, v, h1⟩ := St.grey.1 h.mul1
  have hb := h1.at
  have c0 : w.cell? ⟨g, 0, none⟩ = some v := by rw [cell_of hb]; rfl
  have h2 := h1
  rw [SP.mul_left_comm] at h2
  obtain ⟨o, cap, hv⟩ := h2.rowSlice
  clear h2
  have hv : v = .slice o 0 cap := hv
  subst hv
  have Hr := Lib.hid hr
  clear hr
  go_enter Try.func111, Try.ntmps111
  go_wp2
  go_ret2
  exact ⟨rfl, St.unmul1 (St.grey.2 ⟨Hr.out, _, h1⟩)⟩

set_option maxRecDepth 100000 in
/-- Pop: what was pushed last. -/
theorem pop_some (g room r : Nat) (over : Bool) (stk : List Nat) :
    Tr0 Try.prog 111 #[.pointer (some ⟨g, 0, none⟩)] (GreyP g room over (stk ++ [r])) (.tuple #[.int .i64 r, .bool true]) (GreyP g room over stk) := by
  intro F w h
  obtain ⟨⟨hr1, hr2⟩, v, h1⟩ := St.grey.1 h.mul1
  have hb := h1.at
  have c0 : w.cell? ⟨g, 0, none⟩ = some v := by rw [cell_of hb]; rfl
  have f0 : w.frozen? ⟨g, 0, none⟩ = false := frozen_of hb
  have h2 := h1
  rw [SP.mul_left_comm] at h2
  have hl : ((stk ++ [r]).map refV).length = stk.length + 1 := by simp
  obtain ⟨gb, cap, hv, c1, -⟩ := h2.rowCell (i := stk.length) (x := refV r) (by simp)
  rcases h2.rowForm with ⟨e, -⟩ | ⟨gb', cap', cur, e, h3, q1, q2, q3, q4⟩
  · rw [e] at hv; cases hv
  rw [hl] at hv e q1 q4
  rw [e] at hv
  cases hv
  subst e
  have hlen : stk.length + 1 ≤ 100000 := by rw [List.length_append] at hr1; simp at hr1; omega
  have h4 := h3.rowMk (xs := stk.map refV) (cap := cap) (by simp; omega) q2 q3 (by
    have := congrArg (List.take stk.length) q4
    rw [List.take_take] at this
    simp only [List.map_append] at this
    rw [List.length_map]
    simpa [Nat.min_eq_left (Nat.le_succ _)] using this)
  rw [List.length_map, SP.mul_left_comm] at h4
  have h5 : St (pts g (greyObj (.slice (some ⟨gb, 0, none⟩) stk.length cap) room over) * _) F _ := h4.set (off := 0) (v := .slice (some ⟨gb, 0, none⟩) stk.length cap)
  have hr3 : stk.length ≤ room := by simp at hr1; omega
  have Hr := Lib.hid hr3
  have Hr2 := Lib.hid hr2
  have c1 : w.cell? ⟨gb, stk.length, none⟩ = some (.int .i64 r) := c1
  have hcap : stk.length ≤ cap := by omega
  clear hr1 hr2 hr3 q1 q2 q3 q4 hl h1 h2 h3 h4 h hb
  go_enter Try.func111, Try.ntmps111
  go_wp2
  go_ret2
  exact ⟨rfl, St.unmul1 (St.grey.2 ⟨⟨Hr.out, Hr2.out⟩, _, h5⟩)⟩

/-- Over: did it run over? -/
theorem over_tr (g room : Nat) (over : Bool) (stk : List Nat) :
    Tr0 Try.prog 113 #[.pointer (some ⟨g, 0, none⟩)] (GreyP g room over stk) (.bool over) (GreyP g room over stk) := by
  intro F w h
  obtain ⟨hr, v, h1⟩ := St.grey.1 h.mul1
  have c2 : w.cell? ⟨g, 2, none⟩ = some (.bool over) := by rw [cell_of h1.at]; rfl
  clear h1 hr
  go_enter Try.func113, Try.ntmps113
  go_wp2
  go_ret
  exact ⟨rfl, h⟩

/-- Settle: it didn't. -/
theorem settle_tr (g room : Nat) (over : Bool) (stk : List Nat) :
    Tr0 Try.prog 122 #[.pointer (some ⟨g, 0, none⟩)] (GreyP g room over stk) (.tuple #[]) (GreyP g room false stk) := by
  intro F w h
  obtain ⟨hr, v, h1⟩ := St.grey.1 h.mul1
  have c2 : w.cell? ⟨g, 2, none⟩ = some (.bool over) := by rw [cell_of h1.at]; rfl
  have f2 : w.frozen? ⟨g, 2, none⟩ = false := frozen_of h1.at
  have h4 : St (pts g (greyObj v room false) * _) F _ := h1.set (off := 2) (v := .bool false)
  have Hr := Lib.hid hr
  clear h1 hr
  go_enter Try.func122, Try.ntmps122
  go_wp2
  go_end0
  exact ⟨rfl, St.unmul1 (St.grey.2 ⟨Hr.out, _, h4⟩)⟩
end Go.Proofs.Ytknmlfolbapmpaa
