import Derived.Test.YtknmlfolbapmpaaIn
namespace Go.Proofs.Ytknmlfolbapmpaa
open Go Go.RowKit

theorem SP.x3 (A B C R : SP) : A * (B * (C * R)) = C * (A * (B * R)) := by rw [SP.mul_left_comm B, SP.mul_left_comm A]
theorem SP.x4 (A B C D R : SP) : A * (B * (C * (D * R))) = D * (A * (B * (C * R))) := by rw [SP.mul_left_comm C, SP.mul_left_comm B, SP.mul_left_comm A]
theorem SP.x5 (A B C D E R : SP) : A * (B * (C * (D * (E * R)))) = E * (A * (B * (C * (D * R)))) := by rw [SP.mul_left_comm D, SP.mul_left_comm C, SP.mul_left_comm B, SP.mul_left_comm A]
theorem SP.l3 (A B C : SP) : A * (B * C) = C * (A * B) := by rw [SP.mul_comm B, SP.mul_left_comm]
theorem SP.l4 (A B C D : SP) : A * (B * (C * D)) = D * (A * (B * C)) := by rw [SP.mul_comm C, SP.mul_left_comm B, SP.mul_left_comm A]
theorem SP.l5 (A B C D E : SP) : A * (B * (C * (D * E))) = E * (A * (B * (C * D))) := by rw [SP.mul_comm D, SP.mul_left_comm C, SP.mul_left_comm B, SP.mul_left_comm A]

/-- One of a list of references, by a number that is taken modulo the list's length. -/
theorem St.pick {ol : Option Addr} {l : List Nat} {cl : Nat} {R : SP} {F : Fr} {w : World} (h : St (RowP 36 (.slice ol l.length cl) (l.map refV) * R) F w) (hl : l.length ≠ 0) (x : Nat) :
    ∃ r g, r ∈ l ∧ l[x % l.length]? = some r ∧ ol = some ⟨g, 0, none⟩ ∧ w.cell? ⟨g, x % l.length, none⟩ = some (.int .i64 r) ∧ Int.tmod (x : Int) l.length = ((x % l.length : Nat) : Int) ∧ x % l.length < l.length := by
  have hx : x % l.length < l.length := Nat.mod_lt _ (by omega)
  obtain ⟨r, hr⟩ : ∃ r, l[x % l.length]? = some r := ⟨l[x % l.length], by simp [hx]⟩
  obtain ⟨g, e, c⟩ := h.refAt hr
  exact ⟨r, g, List.mem_iff_getElem?.2 ⟨_, hr⟩, hr, e, c, by rw [Int.tmod_eq_emod_of_nonneg (by omega)]; omega, hx⟩
/-- The next of a slice of pairs. -/
theorem InPairs.next {F : Fr} {o : Option Addr} {es : List (Nat × Nat)} {P : SP} {w : World} (h : ∀ (j : Nat) (e : Nat × Nat), es[j]? = some e → (e.1 < 256 ∧ e.2 < 256) ∧ ∃ a, o = some a ∧ F.rd (a.add (j * 2)) (.int .u8 e.1) ∧ F.rd ((a.add (j * 2)).add 1) (.int .u8 e.2))
    (hs : St P F w) {n : Nat} (hn : n < es.length) : ∃ e a, es[n]? = some e ∧ o = some a ∧ (e.1 < 256 ∧ e.2 < 256) ∧ w.cell? (a.add (n * 2)) = some (.int .u8 e.1) ∧ w.cell? ⟨(a.add (n * 2)).block, (a.add (n * 2)).off + 1, none⟩ = some (.int .u8 e.2) := by
  obtain ⟨e, he⟩ : ∃ e, es[n]? = some e := ⟨es[n], by simp [hn]⟩
  obtain ⟨h1, a, ho, r1, r2⟩ := h n e he
  exact ⟨e, a, he, ho, h1, hs.rd r1, hs.rd r2⟩
theorem InQuads.next {F : Fr} {o : Option Addr} {es : List (Nat × Nat × Nat × Nat)} {P : SP} {w : World} (h : ∀ (j : Nat) (e : Nat × Nat × Nat × Nat), es[j]? = some e → (e.1 < 256 ∧ e.2.1 < 256 ∧ e.2.2.1 < 256 ∧ e.2.2.2 < 256) ∧
    ∃ a, o = some a ∧ F.rd (a.add (j * 4)) (.int .u8 e.1) ∧ F.rd ((a.add (j * 4)).add 1) (.int .u8 e.2.1) ∧ F.rd ((a.add (j * 4)).add 2) (.int .u8 e.2.2.1) ∧ F.rd ((a.add (j * 4)).add 3) (.int .u8 e.2.2.2))
    (hs : St P F w) {n : Nat} (hn : n < es.length) : ∃ e a, es[n]? = some e ∧ o = some a ∧ (e.1 < 256 ∧ e.2.1 < 256 ∧ e.2.2.1 < 256 ∧ e.2.2.2 < 256) ∧ w.cell? (a.add (n * 4)) = some (.int .u8 e.1) ∧
      w.cell? ⟨(a.add (n * 4)).block, (a.add (n * 4)).off + 1, none⟩ = some (.int .u8 e.2.1) ∧ w.cell? ⟨(a.add (n * 4)).block, (a.add (n * 4)).off + 2, none⟩ = some (.int .u8 e.2.2.1) ∧ w.cell? ⟨(a.add (n * 4)).block, (a.add (n * 4)).off + 3, none⟩ = some (.int .u8 e.2.2.2) := by
  obtain ⟨e, he⟩ : ∃ e, es[n]? = some e := ⟨es[n], by simp [hn]⟩
  obtain ⟨h1, a, ho, r1, r2, r3, r4⟩ := h n e he
  exact ⟨e, a, he, ho, h1, hs.rd r1, hs.rd r2, hs.rd r3, hs.rd r4⟩
theorem Mk.shade_zero (M : Mk) (room : Nat) : M.shade room 0 = M := by unfold Mk.shade; rw [if_pos (.inl rfl)]
/-- A call that keeps what it is given. -/
def Kp (P : Program) (f : FuncId) (args : Array Value) (v : Value) (X : SP) (F : Fr) : Prop := ∀ w, St X F w → Calls P f args w fun e w' => e = .returned v ∧ St X F w'
theorem Tr0.kp {P : Program} {f : FuncId} {args : Array Value} {v : Value} {X : SP} (t : Tr0 P f args X v X) (R : SP) (F : Fr) : Kp P f args v (X * R) F := fun _ h => t.use h
/-- All are white. -/
def Mk.white : Mk := ⟨fun _ => false, fun _ => false, [], false⟩
end Go.Proofs.Ytknmlfolbapmpaa
