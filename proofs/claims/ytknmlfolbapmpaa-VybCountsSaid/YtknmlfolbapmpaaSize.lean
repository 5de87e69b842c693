import Derived.Test.YtknmlfolbapmpaaProg
import Derived.WalkSpells
import Derived.WalkLawsBesides
import Derived.Lib.Hide
import Derived.Handy
namespace Go.Proofs.Ytknmlfolbapmpaa
open Go Go.RowKit

/-- A cell's words. -/
def words (c : Int) : Int := if 0 ≤ c ∧ c < 3 then (if c = 0 then 2 else if c = 1 then 4 else 8) else 0
/-- A page's cells. -/
def cells (c : Int) : Int := if 0 ≤ c ∧ c < 3 then (if c = 0 then 16 else if c = 1 then 8 else 4) else 0
/-- The class of objects with so many fields. -/
def classOf (f : Int) : Int := if f ≤ 0 then 0 else if f ≤ 2 then 1 else 2

theorem words_0 : words 0 = 2 := rfl
theorem words_1 : words 1 = 4 := rfl
theorem words_2 : words 2 = 8 := rfl
theorem words_any (c : Int) (w : World) : Calls Try.prog 100 #[.int .i64 c] w fun e w' => e = .returned (.int .i64 (words c)) ∧ w = w' := by
  by_cases h0 : c < 0
  · have e : words c = 0 := by unfold words; rw [if_neg (by omega)]
    have he := Lib.hid e; clear e
    go_enter Try.func100, Try.ntmps100
    go_wp2
    go_ret
    rw [he.out]; exact ⟨rfl, rfl⟩
  · by_cases h3 : 3 ≤ c
    · have e : words c = 0 := by unfold words; rw [if_neg (by omega)]
      have he := Lib.hid e; clear e
      go_enter Try.func100, Try.ntmps100
      go_wp2
      go_ret
      rw [he.out]; exact ⟨rfl, rfl⟩
    · obtain h | h | h : c = 0 ∨ c = 1 ∨ c = 2 := by omega
      all_goals
        subst h
        go_enter Try.func100, Try.ntmps100
        go_wp2
        go_ret
        exact ⟨rfl, rfl⟩

theorem cells_any (c : Int) (w : World) : Calls Try.prog 87 #[.int .i64 c] w fun e w' => e = .returned (.int .i64 (cells c)) ∧ w = w' := by
  by_cases hin : 0 ≤ c ∧ c < 3
  · obtain h | h | h : c = 0 ∨ c = 1 ∨ c = 2 := by omega
    all_goals
      subst h
      go_enter Try.func87, Try.ntmps87
      go_wp2_with fail
      refine (words_any _ _).mono ?_
      rintro e w' ⟨rfl, rfl⟩
      first | rw [words_0] | rw [words_1] | rw [words_2]
      go_wp2
      go_ret
      exact ⟨rfl, rfl⟩
  · have e1 : cells c = 0 := by unfold cells; rw [if_neg hin]
    have e2 : words c = 0 := by unfold words; rw [if_neg hin]
    have h1 := Lib.hid e1; clear e1
    have h2 := Lib.hid e2; clear e2
    clear hin
    go_enter Try.func87, Try.ntmps87
    go_wp2_with fail
    refine (words_any _ _).mono ?_
    rintro e w' ⟨rfl, rfl⟩
    rw [h2.out]
    go_wp2
    go_ret
    rw [h1.out]; exact ⟨rfl, rfl⟩

/-- Where a cell begins. -/
theorem offset_any (c cell : Int) (w : World) (h0 : 0 ≤ cell) (h1 : cell < cells c) : Calls Try.prog 109 #[.int .i64 c, .int .i64 cell] w fun e w' => e = .returned (.tuple #[.int .i64 (cell * words c), .bool true]) ∧ w = w' := by
  have hc : 0 ≤ c ∧ c < 3 := by
    by_cases h : 0 ≤ c ∧ c < 3
    · exact h
    · unfold cells at h1; rw [if_neg h] at h1; omega
  have hw : cells c * words c = 32 ∧ 0 < words c ∧ words c ≤ 8 ∧ cells c ≤ 16 := by
    obtain h | h | h : c = 0 ∨ c = 1 ∨ c = 2 := by omega
    all_goals subst h; decide
  obtain ⟨_, w0, w8, c16⟩ := hw
  have b1 : 0 ≤ cell * words c := Int.mul_nonneg h0 (by omega)
  have b2 : cell * words c ≤ 16 * 8 := Int.mul_le_mul (by omega) w8 (by omega) (by omega)
  generalize hx : words c = x at *
  have hx' := Lib.hid hx; clear hx
  go_enter Try.func109, Try.ntmps109
  go_wp2_with (go_at_call 87; refine (cells_any _ _).mono ?_; rintro e w' ⟨rfl, rfl⟩)
  refine (words_any _ _).mono ?_
  rintro e w' ⟨rfl, rfl⟩
  rw [hx'.out]
  go_wp2
  go_ret2
  exact ⟨rfl, rfl⟩

/-- The class of so many fields. -/
theorem class_any (f : Int) (w : World) (h0 : 0 ≤ f) (h6 : f ≤ 6) : Calls Try.prog 102 #[.int .i64 f] w fun e w' => e = .returned (.tuple #[.int .i64 (classOf f), .bool true]) ∧ w = w' := by
  obtain h | h | h : f ≤ 0 ∨ (1 ≤ f ∧ f ≤ 2) ∨ (3 ≤ f ∧ f ≤ 6) := by omega
  · have e : classOf f = 0 := by unfold classOf; rw [if_pos h]
    have he := Lib.hid e; clear e
    go_enter Try.func102, Try.ntmps102
    go_wp2
    refine wp_loop_rounds 1 ?_
    rw [rounds_succ]
    go_wp2_with fail
    refine (words_any _ _).mono ?_
    rintro e w' ⟨rfl, rfl⟩
    rw [words_0]
    go_wp2
    go_ret2
    rw [he.out]
    exact ⟨rfl, rfl⟩
  · have e : classOf f = 1 := by unfold classOf; rw [if_neg (by omega), if_pos (by omega)]
    have he := Lib.hid e; clear e
    obtain ⟨h1, h2⟩ := h
    go_enter Try.func102, Try.ntmps102
    go_wp2
    refine wp_loop_rounds 2 ?_
    rw [rounds_succ]
    go_wp2_with fail
    refine (words_any _ _).mono ?_
    rintro e w' ⟨rfl, rfl⟩
    rw [words_0]
    go_wp2
    rw [rounds_succ]
    go_wp2_with fail
    refine (words_any _ _).mono ?_
    rintro e w' ⟨rfl, rfl⟩
    rw [words_1]
    go_wp2
    go_ret2
    rw [he.out]
    exact ⟨rfl, rfl⟩
  · have e : classOf f = 2 := by unfold classOf; rw [if_neg (by omega), if_neg (by omega)]
    have he := Lib.hid e; clear e
    obtain ⟨h1, h2⟩ := h
    go_enter Try.func102, Try.ntmps102
    go_wp2
    refine wp_loop_rounds 3 ?_
    rw [rounds_succ]
    go_wp2_with fail
    refine (words_any _ _).mono ?_
    rintro e w' ⟨rfl, rfl⟩
    rw [words_0]
    go_wp2
    rw [rounds_succ]
    go_wp2_with fail
    refine (words_any _ _).mono ?_
    rintro e w' ⟨rfl, rfl⟩
    rw [words_1]
    go_wp2
    rw [rounds_succ]
    go_wp2_with fail
    refine (words_any _ _).mono ?_
    rintro e w' ⟨rfl, rfl⟩
    rw [words_2]
    go_wp2
    go_ret2
    rw [he.out]
    exact ⟨rfl, rfl⟩
end Go.Proofs.Ytknmlfolbapmpaa
