import Derived.Test.YtknmlfolbapmpaaDij2
namespace Go.Proofs.Ytknmlfolbapmpaa
open Go Go.RowKit

/-- A slice of pairs that the frame holds. -/
def InPairs (F : Fr) (v : Value) (es : List (Nat × Nat)) : Prop := ∃ o c, v = .slice o es.length c ∧ ∀ (j : Nat) (e : Nat × Nat), es[j]? = some e → (e.1 < 256 ∧ e.2 < 256) ∧
  ∃ a, o = some a ∧ F.rd (a.add (j * 2)) (.int .u8 e.1) ∧ F.rd ((a.add (j * 2)).add 1) (.int .u8 e.2)

/-- A slice of fours that the frame holds. -/
def InQuads (F : Fr) (v : Value) (es : List (Nat × Nat × Nat × Nat)) : Prop := ∃ o c, v = .slice o es.length c ∧ ∀ (j : Nat) (e : Nat × Nat × Nat × Nat), es[j]? = some e → (e.1 < 256 ∧ e.2.1 < 256 ∧ e.2.2.1 < 256 ∧ e.2.2.2 < 256) ∧
  ∃ a, o = some a ∧ F.rd (a.add (j * 4)) (.int .u8 e.1) ∧ F.rd ((a.add (j * 4)).add 1) (.int .u8 e.2.1) ∧ F.rd ((a.add (j * 4)).add 2) (.int .u8 e.2.2.1) ∧ F.rd ((a.add (j * 4)).add 3) (.int .u8 e.2.2.2)

/-- A map of numbers, by a function: what has none counts 0. -/
def colF (col : Int → Nat) : Int → Option Value := fun z => if col z = 0 then none else some (.int .i64 (col z))
theorem colF_get (col : Int → Nat) (z : Int) : (colF col z).getD (.int .i64 0) = .int .i64 (col z) := by
  unfold colF
  split
  · rename_i e; rw [e]; rfl
  · rfl
theorem colF_put (col : Int → Nat) (z : Int) (c : Nat) (hc : c ≠ 0) : updI (colF col) z (some (.int .i64 c)) = colF (updI col z c) := by
  funext x
  by_cases e : x = z
  · simp [updI, colF, e, hc]
  · simp [updI, colF, e]
/-- A marker's colours: 0 white, 1 grey, 2 black. -/
def ColM (M : Mk) (col : Int → Nat) : Prop := ∀ r : Nat, M.md r = decide (0 < col r) ∧ M.sc r = decide (col r = 2)
theorem ColM.shade {M : Mk} {col : Int → Nat} (h : ColM M col) (room : Nat) {r : Nat} (hr : r ≠ 0) : ColM (M.shade room r) (updI col (r : Int) (max (col r) 1)) := by
  intro x
  rw [Mk.shade_md _ _ hr, Mk.shade_sc]
  by_cases e : x = r
  · subst e
    simp only [updI, if_true, upd_same]
    refine ⟨by simp; omega, ?_⟩
    rw [(h x).2]
    congr 1
    simp only [eq_iff_iff]
    omega
  · have e' : ¬ (x : Int) = (r : Int) := by omega
    simp only [updI, if_neg e', upd_other _ _ e]
    exact h x
theorem ColM.blacken {M : Mk} {col : Int → Nat} (h : ColM M col) {r : Nat} : ColM { M with md := upd M.md r true, sc := upd M.sc r true } (updI col (r : Int) 2) := by
  intro x
  by_cases e : x = r
  · subst e
    simp [updI, upd_same]
  · have e' : ¬ (x : Int) = (r : Int) := by omega
    simp only [updI, if_neg e', upd_other _ _ e]
    exact h x

end Go.Proofs.Ytknmlfolbapmpaa
