import Derived.Test.YtknmlfolbapmpaaArena
namespace Go.Proofs.Ytknmlfolbapmpaa
open Go Go.RowKit

/-- A cell's words; a page's cells. -/
def wN (c : Int) : Nat := (words c).toNat
def cN (c : Int) : Nat := (cells c).toNat
/-- A cell's reference. -/
def rf (p : Nat) (c : Int) (k : Nat) : Nat := p * 32 + k * wN c + 1
theorem wN_cases {c : Int} (h0 : 0 ≤ c) (h3 : c < 3) : (c = 0 ∧ wN c = 2 ∧ cN c = 16 ∧ words c = 2 ∧ cells c = 16) ∨ (c = 1 ∧ wN c = 4 ∧ cN c = 8 ∧ words c = 4 ∧ cells c = 8) ∨ (c = 2 ∧ wN c = 8 ∧ cN c = 4 ∧ words c = 8 ∧ cells c = 4) := by
  obtain rfl | rfl | rfl : c = 0 ∨ c = 1 ∨ c = 2 := by omega
  · exact .inl (by decide)
  · exact .inr (.inl (by decide))
  · exact .inr (.inr (by decide))
theorem rf_lt {p k : Nat} {c : Int} (h0 : 0 ≤ c) (h3 : c < 3) (hk : k < cN c) : p * 32 + 1 ≤ rf p c k ∧ rf p c k ≤ p * 32 + 32 ∧ (rf p c k - 1) % 32 = k * wN c := by
  unfold rf
  rcases wN_cases h0 h3 with ⟨_, e1, e2, _⟩ | ⟨_, e1, e2, _⟩ | ⟨_, e1, e2, _⟩ <;> rw [e2] at hk <;> rw [e1] <;> omega
theorem cells_cN {c : Int} : cells c = (cN c : Int) := by
  unfold cN cells
  split <;> (try split) <;> (try split) <;> rfl

theorem cellsN_any (c : Int) (w : World) : Calls Try.prog 87 #[.int .i64 c] w fun e w' => e = .returned (.int .i64 (cN c : Int)) ∧ w' = w := by
  have h := cells_any c w
  rw [cells_cN] at h
  exact h.mono fun _ _ ⟨h1, h2⟩ => ⟨h1, h2.symm⟩
/-- A cell's reference, in the text. -/
theorem ref_any (p k : Nat) (c : Int) (hp : p < 64) (h0 : 0 ≤ c) (h3 : c < 3) (hk : k < cN c) (w : World) :
    Calls Try.prog 88 #[.int .i64 p, .int .i64 c, .int .i64 k] w fun e w' => e = .returned (.int .i64 (rf p c k)) ∧ w = w' := by
  have hk' : (k : Int) < cells c := by rw [cells_cN]; omega
  have hw : (k : Int) * words c = ((k * wN c : Nat) : Int) ∧ k * wN c ≤ 32 := by
    rcases wN_cases h0 h3 with ⟨_, e1, e2, e3, _⟩ | ⟨_, e1, e2, e3, _⟩ | ⟨_, e1, e2, e3, _⟩ <;> rw [e2] at hk <;> rw [e1, e3] <;> omega
  obtain ⟨hw1, hw2⟩ := hw
  have e : (p : Int) * 32 + ((k * wN c : Nat) : Int) + 1 = ((rf p c k : Nat) : Int) := by unfold rf; omega
  have hoff := offset_any c k
  rw [hw1] at hoff
  generalize k * wN c = o at *
  have He := Lib.hid e; clear e
  have Hw := Lib.hid hw1; clear hw1
  go_enter Try.func88, Try.ntmps88
  go_wp2_with fail
  refine (hoff _ (by omega) hk').mono ?_
  clear hoff
  rintro e w' ⟨rfl, rfl⟩
  go_wp2
  go_ret
  rw [← He.out]
  exact ⟨rfl, rfl⟩

/-- Has. -/
theorem arHas_tr (i : ArId) (A : Ar) (r : Nat) (hr : r ≤ 32 * A.np) : Tr0 Try.prog 64 #[.pointer (some ⟨i.a, 0, none⟩), .int .i64 r] (ArenaP i A) (.bool (A.tk r)) (ArenaP i A) := by
  intro F w h
  obtain ⟨hn, h1⟩ := St.ar.1 h.mul1
  have c0 : w.cell? ⟨i.a, 2, none⟩ = some (.pointer (some ⟨i.tb, 0, none⟩)) := by rw [cell_of h1.at]; rfl
  have h2 : St (SetP i.tb (32 * A.np + 1) A.tk * (pts i.a (arObj i.pb i.wb i.tb A.np A.free) * (pts i.pb (pagesObj A) * (pts i.wb (wordsObj A) * 1)))) F w := h1.to (by simp only [SP.mul_assoc, SP.mul_left_comm, SP.mul_comm])
  have Hn := Lib.hid hn; clear hn h1
  go_enter Try.func64, Try.ntmps64
  go_wp2_with fail
  refine ((has_in i.tb _ A.tk r (by omega) (by omega)).use h2).mono ?_
  rintro e w1 ⟨rfl, h3⟩
  rw [Int.toNat_natCast]
  clear h2 h
  go_wp2
  go_ret
  exact ⟨rfl, St.unmul1 (St.ar.2 ⟨Hn.out, h3.to (by simp only [SP.mul_assoc, SP.mul_left_comm, SP.mul_comm])⟩)⟩
end Go.Proofs.Ytknmlfolbapmpaa
