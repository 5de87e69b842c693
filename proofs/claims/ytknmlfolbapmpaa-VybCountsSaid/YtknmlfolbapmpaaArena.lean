import Derived.Test.YtknmlfolbapmpaaBits2
import Derived.Test.YtknmlfolbapmpaaRow
import Derived.Test.YtknmlfolbapmpaaSize
namespace Go.Proofs.Ytknmlfolbapmpaa
open Go Go.RowKit

/-- An arena's content: how many pages; each page's class and how many of its cells are taken; the words; which references are taken; how many pages are free. -/
structure Ar where
  np : Nat
  cls : Nat → Int
  cnt : Nat → Nat
  wd : Nat → Int
  tk : Nat → Bool
  free : Nat

def pagesObj (A : Ar) : Obj := .cells (row (2 * A.np) fun k => .int .i64 (if k % 2 = 0 then A.cls (k / 2) else (A.cnt (k / 2) : Int))) 107 (0, 0)
def wordsObj (A : Ar) : Obj := .cells (row (32 * A.np) fun k => .int .i64 (A.wd k)) 3 (0, 0)
def arObj (pb wb tb np : Nat) (free : Int) : Obj := .cells #[.slice (some ⟨pb, 0, none⟩) np np, .slice (some ⟨wb, 0, none⟩) (32 * np) (32 * np), .pointer (some ⟨tb, 0, none⟩), .int .i64 free] 105 (0, 0)
/-- An arena's blocks. -/
structure ArId where
  a : Nat
  pb : Nat
  wb : Nat
  tb : Nat
/-- An arena. -/
def ArenaP (i : ArId) (A : Ar) : SP :=
  SP.wh (A.np ≤ 64 ∧ A.free ≤ A.np) (pts i.a (arObj i.pb i.wb i.tb A.np A.free) * (pts i.pb (pagesObj A) * (pts i.wb (wordsObj A) * SetP i.tb (32 * A.np + 1) A.tk)))
theorem St.ar {i : ArId} {A : Ar} {R : SP} {F : Fr} {w : World} : St (ArenaP i A * R) F w ↔
    (A.np ≤ 64 ∧ A.free ≤ A.np) ∧ St (pts i.a (arObj i.pb i.wb i.tb A.np A.free) * (pts i.pb (pagesObj A) * (pts i.wb (wordsObj A) * (SetP i.tb (32 * A.np + 1) A.tk * R)))) F w := by
  unfold ArenaP
  rw [St.whm]
  simp only [SP.mul_assoc]

theorem page_cls {A : Ar} {w : World} {pb p : Nat} (h : w.heap[pb]? = some (pagesObj A)) (hp : p < A.np) : w.cell? ⟨pb, p * 2, none⟩ = some (.int .i64 (A.cls p)) := by
  rw [cell_of h, row_get _ (by omega)]
  simp
theorem page_cnt {A : Ar} {w : World} {pb p : Nat} (h : w.heap[pb]? = some (pagesObj A)) (hp : p < A.np) : w.cell? ⟨pb, p * 2 + 1, none⟩ = some (.int .i64 (A.cnt p)) := by
  rw [cell_of h, row_get _ (by omega)]
  have h1 : ¬ (p * 2 + 1) % 2 = 0 := by omega
  have h2 : (p * 2 + 1) / 2 = p := by omega
  rw [if_neg h1, h2]

/-- Pages. -/
theorem pages_tr (i : ArId) (A : Ar) : Tq Try.prog 46 #[.pointer (some ⟨i.a, 0, none⟩)] (ArenaP i A) (.int .i64 A.np) := by
  intro F w h
  obtain ⟨_, h1⟩ := St.ar.1 h.mul1
  have c0 : w.cell? ⟨i.a, 0, none⟩ = some (.slice (some ⟨i.pb, 0, none⟩) A.np A.np) := by rw [cell_of h1.at]; rfl
  clear h1
  go_enter Try.func46, Try.ntmps46
  go_wp2
  go_ret
  exact ⟨rfl, rfl⟩
/-- Size. -/
theorem arSize_tr (i : ArId) (A : Ar) : Tq Try.prog 75 #[.pointer (some ⟨i.a, 0, none⟩)] (ArenaP i A) (.int .i64 ((32 * A.np + 1 : Nat) : Int)) := by
  intro F w h
  obtain ⟨⟨hn, _⟩, h1⟩ := St.ar.1 h.mul1
  have c0 : w.cell? ⟨i.a, 0, none⟩ = some (.slice (some ⟨i.pb, 0, none⟩) A.np A.np) := by rw [cell_of h1.at]; rfl
  clear h1
  have e : (A.np : Int) * 32 + 1 = ((32 * A.np + 1 : Nat) : Int) := by omega
  have He := Lib.hid e; clear e
  go_enter Try.func75, Try.ntmps75
  go_wp2
  go_ret
  rw [← He.out]
  exact ⟨rfl, rfl⟩
/-- Free. -/
theorem free_tr (i : ArId) (A : Ar) : Tq Try.prog 45 #[.pointer (some ⟨i.a, 0, none⟩)] (ArenaP i A) (.int .i64 A.free) := by
  intro F w h
  obtain ⟨_, h1⟩ := St.ar.1 h.mul1
  have c0 : w.cell? ⟨i.a, 3, none⟩ = some (.int .i64 A.free) := by rw [cell_of h1.at]; rfl
  clear h1
  go_enter Try.func45, Try.ntmps45
  go_wp2
  go_ret
  exact ⟨rfl, rfl⟩
/-- The page that a reference lies in. -/
theorem page_tr (i : ArId) (A : Ar) (r : Int) (h1 : 1 ≤ r) (h2 : r ≤ 32 * A.np) : Tq Try.prog 38 #[.pointer (some ⟨i.a, 0, none⟩), .int .i64 r] (ArenaP i A) (.int .i64 ((r - 1) / 32)) := by
  intro F w h
  have hn := (St.ar.1 h.mul1).1.1
  have g1 : ¬ r < 1 := by omega
  have g2 : ¬ ((32 * A.np + 1 : Nat) : Int) ≤ r := by omega
  go_enter Try.func38, Try.ntmps38
  go_wp2_with fail
  refine (arSize_tr i A F w h).mono ?_
  rintro e w1 ⟨rfl, rfl⟩
  go_wp2
  go_ret
  exact ⟨rfl, rfl⟩
theorem page_out (i : ArId) (A : Ar) (r : Int) (hr : r < 1 ∨ 32 * A.np < r) : Tq Try.prog 38 #[.pointer (some ⟨i.a, 0, none⟩), .int .i64 r] (ArenaP i A) (.int .i64 (-1)) := by
  intro F w h
  have hn := (St.ar.1 h.mul1).1.1
  by_cases g1 : r < 1
  · clear hr
    go_enter Try.func38, Try.ntmps38
    go_wp2
    go_ret
    exact ⟨rfl, rfl⟩
  · have g2 : ((32 * A.np + 1 : Nat) : Int) ≤ r := by omega
    clear hr
    go_enter Try.func38, Try.ntmps38
    go_wp2_with fail
    refine (arSize_tr i A F w h).mono ?_
    rintro e w1 ⟨rfl, rfl⟩
    go_wp2
    go_ret
    exact ⟨rfl, rfl⟩
/-- A page's class. -/
theorem class_tr (i : ArId) (A : Ar) (p : Nat) (hp : p < A.np) : Tq Try.prog 42 #[.pointer (some ⟨i.a, 0, none⟩), .int .i64 p] (ArenaP i A) (.int .i64 (A.cls p)) := by
  intro F w h
  obtain ⟨⟨hn, _⟩, h1⟩ := St.ar.1 h.mul1
  have c0 : w.cell? ⟨i.a, 0, none⟩ = some (.slice (some ⟨i.pb, 0, none⟩) A.np A.np) := by rw [cell_of h1.at]; rfl
  rw [SP.mul_left_comm] at h1
  have c1 := page_cls h1.at hp
  clear h1
  go_enter Try.func42, Try.ntmps42
  go_wp2
  go_ret
  exact ⟨rfl, rfl⟩
theorem class_out (i : ArId) (A : Ar) (p : Int) (hp : p < 0 ∨ A.np ≤ p) : Tq Try.prog 42 #[.pointer (some ⟨i.a, 0, none⟩), .int .i64 p] (ArenaP i A) (.int .i64 (-1)) := by
  intro F w h
  obtain ⟨⟨hn, _⟩, h1⟩ := St.ar.1 h.mul1
  have c0 : w.cell? ⟨i.a, 0, none⟩ = some (.slice (some ⟨i.pb, 0, none⟩) A.np A.np) := by rw [cell_of h1.at]; rfl
  clear h1
  by_cases g1 : p < 0
  · clear hp
    go_enter Try.func42, Try.ntmps42
    go_wp2
    go_ret
    exact ⟨rfl, rfl⟩
  · have g2 : (A.np : Int) ≤ p := by omega
    clear hp
    go_enter Try.func42, Try.ntmps42
    go_wp2
    go_ret
    exact ⟨rfl, rfl⟩
end Go.Proofs.Ytknmlfolbapmpaa
