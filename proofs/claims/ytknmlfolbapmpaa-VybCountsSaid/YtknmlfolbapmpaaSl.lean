import Derived.WalkSpells
import Derived.WalkLawsBesides
import Derived.RangeFuncNested
namespace Go.Proofs.Ytknmlfolbapmpaa
open Go Go.RowKit

/-- A part of the heap. -/
abbrev Hp := Nat → Option Obj

def Hp.none : Hp := fun _ => .none
def Hp.one (b : Nat) (o : Obj) : Hp := fun k => if k = b then some o else .none
def Hp.un (h k : Hp) : Hp := fun b => match h b with | some o => some o | .none => k b
def Hp.Dj (h k : Hp) : Prop := ∀ b, h b = .none ∨ k b = .none
def Hp.On (h : Hp) (w : World) : Prop := ∀ b o, h b = some o → w.heap[b]? = some o

theorem Hp.un_some {h k : Hp} {b : Nat} {o : Obj} (hb : h.un k b = some o) : h b = some o ∨ k b = some o := by
  unfold Hp.un at hb
  split at hb
  · rename_i o' e; cases hb; exact .inl e
  · exact .inr hb
theorem Hp.un_none {h k : Hp} {b : Nat} (hb : h b = .none) (kb : k b = .none) : h.un k b = .none := by simp [Hp.un, hb, kb]
theorem Hp.un_none_iff {h k : Hp} {b : Nat} : h.un k b = .none ↔ h b = .none ∧ k b = .none := by
  unfold Hp.un
  split <;> simp_all
theorem Hp.un_left {h k : Hp} {b : Nat} {o : Obj} (hb : h b = some o) : h.un k b = some o := by simp [Hp.un, hb]
theorem Hp.un_right {h k : Hp} (d : h.Dj k) {b : Nat} {o : Obj} (hb : k b = some o) : h.un k b = some o := by
  rcases d b with e | e
  · simp [Hp.un, e, hb]
  · rw [hb] at e; cases e
theorem Hp.Dj.symm {h k : Hp} (d : h.Dj k) : k.Dj h := fun b => (d b).symm
theorem Hp.un_comm {h k : Hp} (d : h.Dj k) : h.un k = k.un h := by
  funext b
  unfold Hp.un
  rcases d b with e | e
  · rw [e]; cases k b <;> rfl
  · rw [e]; cases h b <;> rfl
theorem Hp.un_assoc (h k l : Hp) : (h.un k).un l = h.un (k.un l) := by
  funext b
  unfold Hp.un
  cases h b <;> simp
theorem Hp.dj_un {h k l : Hp} : h.Dj (k.un l) ↔ h.Dj k ∧ h.Dj l := by
  constructor
  · intro d
    refine ⟨fun b => ?_, fun b => ?_⟩
    · rcases d b with e | e
      · exact .inl e
      · exact .inr (Hp.un_none_iff.1 e).1
    · rcases d b with e | e
      · exact .inl e
      · exact .inr (Hp.un_none_iff.1 e).2
  · rintro ⟨d1, d2⟩ b
    rcases d1 b with e | e
    · exact .inl e
    · rcases d2 b with e2 | e2
      · exact .inl e2
      · exact .inr (Hp.un_none e e2)
theorem Hp.un_dj {h k l : Hp} : (h.un k).Dj l ↔ h.Dj l ∧ k.Dj l :=
  ⟨fun d => ⟨(Hp.dj_un.1 d.symm).1.symm, (Hp.dj_un.1 d.symm).2.symm⟩, fun d => (Hp.dj_un.2 ⟨d.1.symm, d.2.symm⟩).symm⟩
theorem Hp.none_un (h : Hp) : Hp.none.un h = h := rfl
theorem Hp.un_none' (h : Hp) : h.un Hp.none = h := by funext b; unfold Hp.un Hp.none; cases h b <;> rfl
theorem Hp.none_dj (h : Hp) : Hp.none.Dj h := fun _ => .inl rfl
theorem Hp.On.un {h k : Hp} {w : World} (a : h.On w) (b : k.On w) : (h.un k).On w := fun i o e => (Hp.un_some e).elim (a i o) (b i o)
theorem Hp.On.left {h k : Hp} {w : World} (a : (h.un k).On w) : h.On w := fun i o e => a i o (Hp.un_left e)
theorem Hp.On.right {h k : Hp} {w : World} (d : h.Dj k) (a : (h.un k).On w) : k.On w := fun i o e => a i o (Hp.un_right d e)
theorem Hp.On.none (w : World) : Hp.none.On w := fun _ _ e => by cases e
theorem Hp.one_self (b : Nat) (o : Obj) : Hp.one b o b = some o := by simp [Hp.one]
theorem Hp.one_dj {b : Nat} {o : Obj} {h : Hp} : (Hp.one b o).Dj h ↔ h b = .none := by
  constructor
  · intro d
    rcases d b with e | e
    · rw [Hp.one_self] at e; cases e
    · exact e
  · intro e k
    by_cases hk : k = b
    · subst hk; exact .inr e
    · exact .inl (by simp [Hp.one, hk])

/-- An assertion on a part of the heap. -/
def SP := Hp → Prop
theorem SP.ext {P Q : SP} (h : ∀ x, P x ↔ Q x) : P = Q := funext fun x => propext (h x)
instance : Mul SP := ⟨fun P Q h => ∃ h1 h2, P h1 ∧ Q h2 ∧ h1.Dj h2 ∧ h = h1.un h2⟩
instance : One SP := ⟨fun h => h = Hp.none⟩
theorem SP.mul_def (P Q : SP) (h : Hp) : (P * Q) h ↔ ∃ h1 h2, P h1 ∧ Q h2 ∧ h1.Dj h2 ∧ h = h1.un h2 := Iff.rfl
theorem SP.one_def (h : Hp) : (1 : SP) h ↔ h = Hp.none := Iff.rfl
theorem SP.mul_comm (P Q : SP) : P * Q = Q * P := by
  apply SP.ext
  intro h
  constructor <;>
  · rintro ⟨a, b, ha, hb, d, rfl⟩
    exact ⟨b, a, hb, ha, d.symm, Hp.un_comm d⟩
theorem SP.mul_assoc (P Q R : SP) : P * Q * R = P * (Q * R) := by
  apply SP.ext
  intro h
  constructor
  · rintro ⟨x, c, ⟨a, b, ha, hb, d, rfl⟩, hc, d2, rfl⟩
    obtain ⟨d3, d4⟩ := Hp.un_dj.1 d2
    exact ⟨a, b.un c, ha, ⟨b, c, hb, hc, d4, rfl⟩, Hp.dj_un.2 ⟨d, d3⟩, Hp.un_assoc _ _ _⟩
  · rintro ⟨a, x, ha, ⟨b, c, hb, hc, d, rfl⟩, d2, rfl⟩
    obtain ⟨d3, d4⟩ := Hp.dj_un.1 d2
    exact ⟨a.un b, c, ⟨a, b, ha, hb, d3, rfl⟩, hc, Hp.un_dj.2 ⟨d4, d⟩, (Hp.un_assoc _ _ _).symm⟩
theorem SP.one_mul (P : SP) : 1 * P = P := by
  apply SP.ext
  intro h
  constructor
  · rintro ⟨a, b, ha, hb, d, rfl⟩; cases ha; exact hb
  · intro hp; exact ⟨Hp.none, h, rfl, hp, Hp.none_dj _, rfl⟩
theorem SP.mul_one (P : SP) : P * 1 = P := by rw [SP.mul_comm, SP.one_mul]
theorem SP.mul_left_comm (P Q R : SP) : P * (Q * R) = Q * (P * R) := by rw [← SP.mul_assoc, SP.mul_comm P Q, SP.mul_assoc]
instance : Std.Associative (α := SP) (· * ·) := ⟨SP.mul_assoc⟩
instance : Std.Commutative (α := SP) (· * ·) := ⟨SP.mul_comm⟩
instance : Std.LawfulIdentity (α := SP) (· * ·) 1 where
  left_id := SP.one_mul
  right_id := SP.mul_one

def pts (b : Nat) (o : Obj) : SP := fun h => h = Hp.one b o
def SP.ex {α : Sort _} (P : α → SP) : SP := fun h => ∃ x, P x h
/-- A fact, and an assertion. -/
def SP.wh (p : Prop) (P : SP) : SP := fun h => p ∧ P h
theorem SP.ex_mul {α : Sort _} (P : α → SP) (R : SP) : SP.ex P * R = SP.ex fun x => P x * R := by
  apply SP.ext
  intro h
  constructor
  · rintro ⟨a, b, ⟨x, ha⟩, hb, d, rfl⟩; exact ⟨x, a, b, ha, hb, d, rfl⟩
  · rintro ⟨x, a, b, ha, hb, d, rfl⟩; exact ⟨a, b, ⟨x, ha⟩, hb, d, rfl⟩
theorem SP.wh_mul (p : Prop) (P R : SP) : SP.wh p P * R = SP.wh p (P * R) := by
  apply SP.ext
  intro h
  constructor
  · rintro ⟨a, b, ⟨x, ha⟩, hb, d, rfl⟩; exact ⟨x, a, b, ha, hb, d, rfl⟩
  · rintro ⟨x, a, b, ha, hb, d, rfl⟩; exact ⟨a, b, ⟨x, ha⟩, hb, d, rfl⟩

/-- What lies beside, and stays: a part of the heap, and the streams. -/
structure Fr where
  hp : Hp
  os : Os
  tape : Nat → Question → Nat
  output : Array (Nat × ByteArray)

/-- The world holds P, and apart from it the frame. -/
def St (P : SP) (F : Fr) (w : World) : Prop := ∃ h, P h ∧ h.On w ∧ F.hp.On w ∧ h.Dj F.hp ∧ w.os = F.os ∧ w.tape = F.tape ∧ w.output = F.output

theorem St.imp {P Q : SP} {F : Fr} {w : World} (h : St P F w) (hpq : ∀ x, P x → Q x) : St Q F w := by
  obtain ⟨x, hp, r⟩ := h
  exact ⟨x, hpq x hp, r⟩
theorem St.to {P Q : SP} {F : Fr} {w : World} (h : St P F w) (e : P = Q) : St Q F w := e ▸ h
theorem St.mul1 {P : SP} {F : Fr} {w : World} (h : St P F w) : St (P * 1) F w := by rw [SP.mul_one]; exact h
theorem St.unmul1 {P : SP} {F : Fr} {w : World} (h : St (P * 1) F w) : St P F w := by rw [SP.mul_one] at h; exact h
theorem St.impm {P Q R : SP} {F : Fr} {w : World} (h : St (P * R) F w) (hpq : ∀ x, P x → Q x) : St (Q * R) F w :=
  h.imp fun _ ⟨a, b, ha, r⟩ => ⟨a, b, hpq a ha, r⟩
theorem St.drop {P R : SP} {F : Fr} {w : World} (h : St (P * R) F w) : St P F w := by
  obtain ⟨x, ⟨a, b, ha, hb, d, rfl⟩, on, fon, dj, r⟩ := h
  exact ⟨a, ha, on.left, fon, (Hp.un_dj.1 dj).1, r⟩
theorem St.drop2 {P R : SP} {F : Fr} {w : World} (h : St (P * R) F w) : St R F w := by
  rw [SP.mul_comm] at h; exact h.drop
theorem St.one {F : Fr} {w : World} (h : F.hp.On w) (h1 : w.os = F.os) (h2 : w.tape = F.tape) (h3 : w.output = F.output) : St 1 F w :=
  ⟨Hp.none, rfl, Hp.On.none w, h, Hp.none_dj _, h1, h2, h3⟩
theorem St.frame {P : SP} {F : Fr} {w : World} (h : St P F w) : St 1 F w := by
  obtain ⟨x, _, _, fon, _, r⟩ := h
  exact ⟨Hp.none, rfl, Hp.On.none w, fon, Hp.none_dj _, r⟩
theorem St.old {P : SP} {F : Fr} {w : World} (h : St P F w) {b : Nat} {o : Obj} (e : F.hp b = some o) : w.heap[b]? = some o := by
  obtain ⟨x, _, _, fon, _⟩ := h
  exact fon b o e
theorem St.at {b : Nat} {o : Obj} {R : SP} {F : Fr} {w : World} (h : St (pts b o * R) F w) : w.heap[b]? = some o := by
  obtain ⟨x, ⟨a, c, ha, hc, d, rfl⟩, on, _⟩ := h
  cases ha
  exact on.left b o (Hp.one_self b o)
theorem St.ex {α : Sort _} {P : α → SP} {F : Fr} {w : World} : St (SP.ex P) F w ↔ ∃ x, St (P x) F w := by
  constructor
  · rintro ⟨h, ⟨x, hp⟩, r⟩; exact ⟨x, h, hp, r⟩
  · rintro ⟨x, h, hp, r⟩; exact ⟨h, ⟨x, hp⟩, r⟩
theorem St.wh {p : Prop} {P : SP} {F : Fr} {w : World} : St (SP.wh p P) F w ↔ p ∧ St P F w := by
  constructor
  · rintro ⟨h, ⟨x, hp⟩, r⟩; exact ⟨x, h, hp, r⟩
  · rintro ⟨x, h, hp, r⟩; exact ⟨h, ⟨x, hp⟩, r⟩
theorem St.exm {α : Sort _} {P : α → SP} {R : SP} {F : Fr} {w : World} : St (SP.ex P * R) F w ↔ ∃ x, St (P x * R) F w := by rw [SP.ex_mul, St.ex]
theorem St.whm {p : Prop} {P R : SP} {F : Fr} {w : World} : St (SP.wh p P * R) F w ↔ p ∧ St (P * R) F w := by rw [SP.wh_mul, St.wh]

/-- The frame with another part beside it. -/
def Fr.plus (F : Fr) (r : Hp) : Fr := { F with hp := F.hp.un r }

/-- The rule of the frame, as a step: R lies beside while the world turns. -/
theorem St.part {P R : SP} {F : Fr} {w : World} (h : St (P * R) F w) : ∃ r, R r ∧ F.hp.Dj r ∧ St P (F.plus r) w := by
  obtain ⟨x, ⟨a, c, ha, hc, d, rfl⟩, on, fon, dj, e1, e2, e3⟩ := h
  obtain ⟨d1, d2⟩ := Hp.un_dj.1 dj
  exact ⟨c, hc, d2.symm, a, ha, on.left, fon.un (on.right d), Hp.dj_un.2 ⟨d1, d⟩, e1, e2, e3⟩
theorem St.join {P R : SP} {F : Fr} {w : World} {r : Hp} (hr : R r) (d : F.hp.Dj r) (h : St P (F.plus r) w) : St (P * R) F w := by
  obtain ⟨a, ha, on, fon, dj, e⟩ := h
  obtain ⟨d1, d2⟩ := Hp.dj_un.1 dj
  exact ⟨a.un r, ⟨a, r, ha, hr, d2, rfl⟩, on.un (Hp.On.right d fon), fon.left, Hp.un_dj.2 ⟨d1, d.symm⟩, e⟩

/-! ### Steps of the world -/
theorem St.drew {P : SP} {F : Fr} {w : World} (h : St P F w) : St P F w.drew := by
  obtain ⟨x, hp, on, fon, dj, e⟩ := h
  exact ⟨x, hp, on, fon, dj, e⟩
theorem St.drewN {P : SP} {F : Fr} {w : World} (h : St P F w) (n : Nat) : St P F (w.drewN n) := by
  obtain ⟨x, hp, on, fon, dj, e⟩ := h
  exact ⟨x, hp, on, fon, dj, e⟩
/-- The world grew: what it held it holds. -/
theorem St.grown0 {P : SP} {F : Fr} {w w' : World} (h : St P F w) (hg : w.grownBy w' .none) : St P F w' := by
  obtain ⟨x, hp, on, fon, dj, e1, e2, e3⟩ := h
  have hk : ∀ {r : Hp}, r.On w → r.On w' := fun hr b o e => by
    have := hr b o e
    rw [hg.block b (Array.getElem?_eq_some_iff.1 this).1 (by simp)]
    exact this
  exact ⟨x, hp, hk on, hk fon, dj, hg.os.trans e1, hg.tape.trans e2, hg.output.trans e3⟩
/-- One block turned, blocks came: what held the block holds another thing. -/
theorem St.turn {b : Nat} {o o' : Obj} {R : SP} {F : Fr} {w w' : World} (h : St (pts b o * R) F w) (hg : w.grownBy w' (some b)) (hb : w'.heap[b]? = some o') : St (pts b o' * R) F w' := by
  obtain ⟨x, ⟨a, c, ha, hc, d, rfl⟩, on, fon, dj, e1, e2, e3⟩ := h
  cases ha
  have hk : ∀ {r : Hp}, r.On w → r b = .none → r.On w' := fun {r} hr hn k o e => by
    have := hr k o e
    rw [hg.block k (Array.getElem?_eq_some_iff.1 this).1 (by intro e'; cases e'; rw [hn] at e; cases e)]
    exact this
  have d1 := Hp.one_dj.1 d
  obtain ⟨d2, d3⟩ := Hp.un_dj.1 dj
  have d4 := Hp.one_dj.1 d2
  refine ⟨(Hp.one b o').un c, ⟨_, c, rfl, hc, Hp.one_dj.2 d1, rfl⟩, Hp.On.un ?_ (hk (Hp.On.right d on) d1), hk fon d4, Hp.un_dj.2 ⟨Hp.one_dj.2 d4, d3⟩, hg.os.trans e1, hg.tape.trans e2, hg.output.trans e3⟩
  intro k o2 e
  simp only [Hp.one] at e
  split at e
  · rename_i hkb; cases e; rw [hkb]; exact hb
  · cases e
/-- Blocks came, and one of them is held. -/
theorem St.came {b : Nat} {o : Obj} {R : SP} {F : Fr} {w w' : World} (h : St R F w) (hg : w.grownBy w' .none) (hlt : w.heap.size ≤ b) (hb : w'.heap[b]? = some o) : St (pts b o * R) F w' := by
  obtain ⟨x, hp, on, fon, dj, e1, e2, e3⟩ := h
  have hk : ∀ {r : Hp}, r.On w → r.On w' := fun hr b o e => by
    have := hr b o e
    rw [hg.block b (Array.getElem?_eq_some_iff.1 this).1 (by simp)]
    exact this
  have hn : ∀ {r : Hp}, r.On w → r b = .none := fun {r} hr => by
    cases e : r b with
    | none => rfl
    | some o => have := (Array.getElem?_eq_some_iff.1 (hr b o e)).1; omega
  refine ⟨(Hp.one b o).un x, ⟨_, x, rfl, hp, Hp.one_dj.2 (hn on), rfl⟩, Hp.On.un ?_ (hk on), hk fon, Hp.un_dj.2 ⟨Hp.one_dj.2 (hn fon), dj⟩, hg.os.trans e1, hg.tape.trans e2, hg.output.trans e3⟩
  intro k o2 e
  simp only [Hp.one] at e
  split at e
  · rename_i hkb; cases e; rw [hkb]; exact hb
  · cases e
theorem St.alloc {R : SP} {F : Fr} {w : World} (h : St R F w) (o : Obj) : St (pts w.heap.size o * R) F (w.alloc o) :=
  h.came (World.grownBy_alloc w o .none) (Nat.le_refl _) (heap_alloc_new w o)
theorem grownBy_setCell (w : World) (a : Addr) (v : Value) : w.grownBy (w.setCell a v) (some a.block) :=
  ⟨rfl, rfl, rfl, by simp [World.setCell], fun k _ hne => Below.heap_setCell _ _ _ _ (by intro e; exact hne (by rw [e]))⟩
theorem heap_setCell_at {w : World} {b off : Nat} {v : Value} {c : Array Value} {T : TypeId} {f : Nat × Nat} (h : w.heap[b]? = some (.cells c T f)) :
    (w.setCell ⟨b, off, .none⟩ v).heap[b]? = some (.cells (c.setIfInBounds off v) T f) := by
  obtain ⟨hlt, he⟩ := Array.getElem?_eq_some_iff.1 h
  simp only [World.setCell, Array.getElem?_modify, if_true]
  rw [h]
  simp
theorem St.set {b off : Nat} {v : Value} {c : Array Value} {T : TypeId} {f : Nat × Nat} {R : SP} {F : Fr} {w : World} (h : St (pts b (.cells c T f) * R) F w) :
    St (pts b (.cells (c.setIfInBounds off v) T f) * R) F (w.setCell ⟨b, off, .none⟩ v) :=
  h.turn (grownBy_setCell _ _ _) (heap_setCell_at h.at)
/-- Two held blocks are two. -/
theorem St.ne {b k : Nat} {o o' : Obj} {R : SP} {F : Fr} {w : World} (h : St (pts b o * (pts k o' * R)) F w) : b ≠ k := by
  obtain ⟨x, ⟨a, c, ha, ⟨a2, c2, ha2, hc2, d2, rfl⟩, d, rfl⟩, _⟩ := h
  cases ha
  cases ha2
  intro e
  subst e
  have := Hp.one_dj.1 d
  rw [Hp.un_left (Hp.one_self _ _)] at this
  cases this
/-- A held block is not of the frame. -/
theorem St.fresh {b : Nat} {o : Obj} {R : SP} {F : Fr} {w : World} (h : St (pts b o * R) F w) : F.hp b = .none := by
  obtain ⟨x, ⟨a, c, ha, _, d, rfl⟩, _, _, dj, _⟩ := h
  cases ha
  exact Hp.one_dj.1 (Hp.un_dj.1 dj).1

theorem cell_of {w : World} {b off : Nat} {c : Array Value} {T : TypeId} {f : Nat × Nat} (h : w.heap[b]? = some (.cells c T f)) : w.cell? ⟨b, off, .none⟩ = c[off]? := by simp [World.cell?, h]
theorem frozen_of {w : World} {b off : Nat} {c : Array Value} {T : TypeId} (h : w.heap[b]? = some (.cells c T (0, 0))) : w.frozen? ⟨b, off, .none⟩ = false := by simp [World.frozen?, h]

/-! ### Contracts -/
/-- A call of f at args, from P: it returns, by v and Q at some x. -/
def Tr {α : Sort _} (P : Program) (f : FuncId) (args : Array Value) (Pre : SP) (v : α → Value) (Q : α → SP) : Prop :=
  ∀ F w, St Pre F w → Calls P f args w fun e w' => ∃ x, e = .returned (v x) ∧ St (Q x) F w'
theorem Tr.use {α : Sort _} {P : Program} {f : FuncId} {args : Array Value} {Pre R : SP} {v : α → Value} {Q : α → SP} (t : Tr P f args Pre v Q) {F : Fr} {w : World} (h : St (Pre * R) F w) :
    Calls P f args w fun e w' => ∃ x, e = .returned (v x) ∧ St (Q x * R) F w' := by
  obtain ⟨r, hr, d, hs⟩ := h.part
  refine (t _ _ hs).mono ?_
  rintro e w' ⟨x, rfl, hq⟩
  exact ⟨x, rfl, hq.join hr d⟩
/-- A call of f at args, from P: it returns v, and the world is as it was. -/
def Tq (P : Program) (f : FuncId) (args : Array Value) (Pre : SP) (v : Value) : Prop :=
  ∀ F w, St Pre F w → Calls P f args w fun e w' => e = .returned v ∧ w = w'
theorem Tq.use {P : Program} {f : FuncId} {args : Array Value} {Pre R : SP} {v : Value} (t : Tq P f args Pre v) {F : Fr} {w : World} (h : St (Pre * R) F w) :
    Calls P f args w fun e w' => e = .returned v ∧ w = w' := by
  obtain ⟨r, _, _, hs⟩ := h.part
  exact t _ _ hs
theorem Tq.at {P : Program} {f : FuncId} {args : Array Value} {Pre R X : SP} {v : Value} (t : Tq P f args Pre v) {F : Fr} {w : World} (h : St X F w) (e : X = Pre * R) :
    Calls P f args w fun e w' => e = .returned v ∧ w = w' := t.use (h.to e)
/-- A call of f at args, from P: it returns v, and holds Q. -/
def Tr0 (P : Program) (f : FuncId) (args : Array Value) (Pre : SP) (v : Value) (Q : SP) : Prop :=
  ∀ F w, St Pre F w → Calls P f args w fun e w' => e = .returned v ∧ St Q F w'
theorem Tr0.use {P : Program} {f : FuncId} {args : Array Value} {Pre R : SP} {v : Value} {Q : SP} (t : Tr0 P f args Pre v Q) {F : Fr} {w : World} (h : St (Pre * R) F w) :
    Calls P f args w fun e w' => e = .returned v ∧ St (Q * R) F w' := by
  obtain ⟨r, hr, d, hs⟩ := h.part
  refine (t _ _ hs).mono ?_
  rintro e w' ⟨rfl, hq⟩
  exact ⟨rfl, hq.join hr d⟩
theorem Tr0.at {P : Program} {f : FuncId} {args : Array Value} {Pre R X : SP} {v : Value} {Q : SP} (t : Tr0 P f args Pre v Q) {F : Fr} {w : World} (h : St X F w) (e : X = Pre * R) :
    Calls P f args w fun e w' => e = .returned v ∧ St (Q * R) F w' := t.use (h.to e)
theorem Tr.at {α : Sort _} {P : Program} {f : FuncId} {args : Array Value} {Pre R X : SP} {v : α → Value} {Q : α → SP} (t : Tr P f args Pre v Q) {F : Fr} {w : World} (h : St X F w) (e : X = Pre * R) :
    Calls P f args w fun e w' => ∃ x, e = .returned (v x) ∧ St (Q x * R) F w' := t.use (h.to e)
end Go.Proofs.Ytknmlfolbapmpaa
