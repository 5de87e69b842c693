import Derived.Test.YtknmlfolbapmpaaArena3
namespace Go.Proofs.Ytknmlfolbapmpaa
open Go Go.RowKit

/-- 'clear' of a part of a row of cells. -/
theorem run_clear {P : Program} (w : World) (t ty E : TypeId) (i : TypeInfo) (z : Value) (ht : P.underlying t = some (.slice E)) (hi : P.info? E = some i) (hz : i.zero = some z) (hzc : z.cells = #[z]) (h1 : z.oneCell' = true)
    (g o n c m : Nat) (f : Nat → Value) (hg : w.heap[g]? = some (.cells (row m f) E (0, 0))) (hn : 0 < n) (hon : o + n ≤ m) :
    (Builtin.clear_ #[t] ty #[.slice (some ⟨g, o, none⟩) n c]).run P w = .ok (.tuple #[]) (w.setRow g (row m fun k => if o ≤ k ∧ k < o + n then z else f k)) := by
  have hzl : (Builtin.zeroCells #[z] n).toList = List.replicate n z := by
    apply List.ext_getElem
    · simp [Builtin.zeroCells]
    · intro k h1 h2
      simp [Builtin.zeroCells, Nat.mod_one]
  have hst := run_storeCells_at P g o E (List.replicate n z) 0 (row m f) w hg (by simp [row_size]; omega) (fun v hv => by rw [(List.mem_replicate.1 hv).2]; exact h1)
  have hrow : ((row m f).toList.take (o + 0) ++ List.replicate n z ++ (row m f).toList.drop (o + 0 + (List.replicate n z).length)).toArray = row m fun k => if o ≤ k ∧ k < o + n then z else f k := by
    apply congrArg List.toArray
    apply List.ext_getElem?
    intro k
    simp only [row, Nat.add_zero, List.length_replicate]
    rw [List.append_assoc]
    by_cases a : k < o
    · rw [List.getElem?_append_left (by simp; omega), List.getElem?_take_of_lt a]
      simp [show k < m by omega, show ¬ (o ≤ k ∧ k < o + n) by omega]
    · rw [List.getElem?_append_right (by simp; omega)]
      have e1 : k - (List.take o (List.map f (List.range m))).length = k - o := by simp; omega
      rw [e1]
      by_cases b : k < o + n
      · rw [List.getElem?_append_left (by simp; omega)]
        simp [show k < m by omega, show k - o < n by omega, show o ≤ k ∧ k < o + n by omega]
      · rw [List.getElem?_append_right (by simp; omega)]
        have e2 : o + n + (k - o - n) = k := by omega
        simp only [List.length_replicate, List.getElem?_drop, e2, List.getElem?_map]
        by_cases hk : k < m
        · simp [hk, show ¬ (o ≤ k ∧ k < o + n) by omega]
        · simp [hk]
  rw [hrow] at hst
  obtain ⟨n', rfl⟩ : ∃ n', n = n' + 1 := ⟨n - 1, by omega⟩
  simp [Builtin.clear_, run_underlying ht, zeroValue, typeInfo, hi, hz, hzc, hzl, hst, Result.andThen]

/-- An arena behind a Take. -/
def Ar.took (A : Ar) (c : Int) (p k : Nat) : Ar :=
  { A with
    cls := upd A.cls p c
    cnt := upd A.cnt p ((if A.cls p = c then A.cnt p else 0) + 1)
    tk := upd A.tk (rf p c k) true
    wd := fun j => if rf p c k - 1 ≤ j ∧ j < rf p c k - 1 + wN c then 0 else A.wd j
    free := if A.cls p = c then A.free else A.free - 1 }
/-- Which cell 'Take' takes. -/
def Ar.takes (A : Ar) (c : Int) (p k : Nat) : Prop := A.gapAt c p k ∨ (A.gapNo c ∧ p < A.np ∧ A.cls p < 0 ∧ (∀ q, q < p → 0 ≤ A.cls q) ∧ k = 0)
def Ar.noRoom (A : Ar) (c : Int) : Prop := A.gapNo c ∧ A.free = 0

set_option maxRecDepth 100000 in
/-- Room. -/
theorem room_yes (i : ArId) (A : Ar) (hA : A.WF) (c : Int) (h0 : 0 ≤ c) (h3 : c < 3) (hr : ¬ A.noRoom c) :
    Tr0 Try.prog 98 #[.pointer (some ⟨i.a, 0, none⟩), .int .i64 c] (ArenaP i A) (.bool true) (ArenaP i A) := by
  intro F w h
  have hc : (((cN c : Nat) : Int) == 0) = false := by
    rcases wN_cases h0 h3 with ⟨_, _, e, _⟩ | ⟨_, _, e, _⟩ | ⟨_, _, e, _⟩ <;> rw [e] <;> rfl
  have hg := gap_tr i A hA c h0 h3 F w h
  have Hg := Lib.hid hg
  clear hg hA
  have Hc := Lib.hid hc
  clear hc
  have Hr := Lib.hid hr
  clear hr
  go_enter Try.func98, Try.ntmps98
  go_wp2_with fail
  refine (cellsN_any _ _).mono ?_
  rintro e w' ⟨rfl, rfl⟩
  have hc := Hc.out
  go_wp2_with fail
  refine Hg.out.mono ?_
  rintro e w1 ⟨x, rfl, hx1⟩
  obtain ⟨hx, h1⟩ := St.wh.1 hx1
  obtain ⟨hn, h2⟩ := St.ar.1 h1.mul1
  have c3 : w1.cell? ⟨i.a, 3, none⟩ = some (.int .i64 A.free) := by rw [cell_of h2.at]; rfl
  clear h2 hx1
  cases x with
  | some pk =>
    obtain ⟨p, k⟩ := pk
    simp only [gapV]
    clear hx
    go_wp2
    go_ret
    exact ⟨rfl, h1⟩
  | none =>
    simp only [gapV]
    have hf : 0 < A.free := by
      rcases Nat.eq_zero_or_pos A.free with e | e
      · exact absurd ⟨hx, e⟩ Hr.out
      · exact e
    clear hx
    go_wp2
    go_ret
    exact ⟨rfl, h1⟩

set_option maxRecDepth 100000 in
theorem room_no (i : ArId) (A : Ar) (hA : A.WF) (c : Int) (h0 : 0 ≤ c) (h3 : c < 3) (hr : A.noRoom c) :
    Tr0 Try.prog 98 #[.pointer (some ⟨i.a, 0, none⟩), .int .i64 c] (ArenaP i A) (.bool false) (ArenaP i A) := by
  intro F w h
  have hc : (((cN c : Nat) : Int) == 0) = false := by
    rcases wN_cases h0 h3 with ⟨_, _, e, _⟩ | ⟨_, _, e, _⟩ | ⟨_, _, e, _⟩ <;> rw [e] <;> rfl
  have hg := gap_tr i A hA c h0 h3 F w h
  have Hg := Lib.hid hg
  clear hg hA
  have Hc := Lib.hid hc
  clear hc
  have Hr := Lib.hid hr
  clear hr
  go_enter Try.func98, Try.ntmps98
  go_wp2_with fail
  refine (cellsN_any _ _).mono ?_
  rintro e w' ⟨rfl, rfl⟩
  have hc := Hc.out
  go_wp2_with fail
  refine Hg.out.mono ?_
  rintro e w1 ⟨x, rfl, hx1⟩
  obtain ⟨hx, h1⟩ := St.wh.1 hx1
  obtain ⟨hn, h2⟩ := St.ar.1 h1.mul1
  have c3 : w1.cell? ⟨i.a, 3, none⟩ = some (.int .i64 A.free) := by rw [cell_of h2.at]; rfl
  clear h2 hx1
  cases x with
  | some pk =>
    exact absurd (Hr.out.1 _ hx.1 hx.2.1) hx.2.2.1
  | none =>
    simp only [gapV]
    have hf : ¬ 0 < A.free := by have := Hr.out.2; omega
    clear hx
    go_wp2
    go_ret
    exact ⟨rfl, h1⟩
end Go.Proofs.Ytknmlfolbapmpaa
