import Derived.Test.YtknmlfolbapmpaaRow
import Derived.MapKept
import Derived.Carry
namespace Go.Proofs.Ytknmlfolbapmpaa
open Go Go.RowKit

/-- A map's entries: key, value, stamp. -/
abbrev Ents := List (Int × Value × Nat)
def entsOf (l : Ents) : Array MapEntry := (l.map fun e => ({ key := .int .i64 e.1, val := e.2.1, born := e.2.2 } : MapEntry)).toArray
def getL : Ents → Int → Option Value
  | [], _ => none
  | e :: l, k => if k = e.1 then some e.2.1 else getL l k
/-- A map from integers. -/
def MapP (b n : Nat) (f : Int → Option Value) : SP := SP.ex fun x : Ents × Nat => SP.wh (x.1.length = n ∧ ∀ k, getL x.1 k = f k) (pts b (.map (entsOf x.1) x.2))
theorem St.map {b n : Nat} {f : Int → Option Value} {R : SP} {F : Fr} {w : World} : St (MapP b n f * R) F w ↔ ∃ (l : Ents) (c : Nat), (l.length = n ∧ ∀ k, getL l k = f k) ∧ St (pts b (.map (entsOf l) c) * R) F w := by
  unfold MapP
  rw [St.exm]
  constructor
  · rintro ⟨⟨l, c⟩, h⟩; exact ⟨l, c, St.whm.1 h⟩
  · rintro ⟨l, c, h⟩; exact ⟨(l, c), St.whm.2 h⟩
theorem St.mapNew {R : SP} {F : Fr} {w : World} (h : St R F w) : St (MapP w.heap.size 0 (fun _ => none) * R) F (w.alloc (.map #[] 0)) :=
  St.map.2 ⟨[], 0, ⟨rfl, fun _ => rfl⟩, h.alloc _⟩

/-- The first place of a key. -/
def idxL : Ents → Int → Option Nat
  | [], _ => none
  | e :: l, k => if k = e.1 then some 0 else (idxL l k).map (· + 1)
theorem findNow_ents (k : Int) : ∀ (l : Ents) (i : Nat), Instr.findNow (.int .i64) (.int .i64 k) (l.map fun e => ({ key := .int .i64 e.1, val := e.2.1, born := e.2.2 } : MapEntry)) i =
    some (match idxL l k, getL l k with | some j, some v => some (i + j, v) | _, _ => none) := by
  intro l
  induction l with
  | nil => intro i; rfl
  | cons e l ih =>
    intro i
    simp only [List.map_cons, Instr.findNow, Instr.sameNow, if_true, idxL, getL]
    by_cases h : k = e.1
    · simp [h]
    · have hb : (k == e.1) = false := by simpa using h
      simp only [hb, h, if_false, ih]
      cases hx : idxL l k <;> cases hg : getL l k <;> simp <;> omega
theorem idx_get {l : Ents} {k : Int} {v : Value} (h : getL l k = some v) : ∃ j, idxL l k = some j ∧ j < l.length ∧ (∃ e, l[j]? = some e ∧ e.1 = k) := by
  induction l with
  | nil => cases h
  | cons e l ih =>
    simp only [getL] at h
    by_cases hk : k = e.1
    · exact ⟨0, by simp [idxL, hk], by simp, e, rfl, hk.symm⟩
    · rw [if_neg hk] at h
      obtain ⟨j, h1, h2, e2, h3, h4⟩ := ih h
      exact ⟨j + 1, by simp [idxL, hk, h1], by simp; omega, e2, by simpa using h3, h4⟩
theorem idx_none {l : Ents} {k : Int} (h : getL l k = none) : idxL l k = none := by
  induction l with
  | nil => rfl
  | cons e l ih =>
    simp only [getL] at h
    by_cases hk : k = e.1
    · rw [if_pos hk] at h; cases h
    · rw [if_neg hk] at h; simp [idxL, hk, ih h]

/-- The entries behind a store at place j. -/
def modL (l : Ents) (j : Nat) (v : Value) : Ents := l.modify j fun e => (e.1, v, e.2.2)
theorem getL_mod {l : Ents} {k : Int} {j : Nat} {v : Value} (h : idxL l k = some j) (x : Int) : getL (modL l j v) x = if x = k then some v else getL l x := by
  induction l generalizing j with
  | nil => cases h
  | cons e l ih =>
    simp only [idxL] at h
    by_cases hk : k = e.1
    · rw [if_pos hk] at h; cases h
      subst hk
      simp only [modL, List.modify_zero_cons, getL]
      by_cases hx : x = e.1 <;> simp [hx]
    · rw [if_neg hk] at h
      cases hi : idxL l k with
      | none => rw [hi] at h; cases h
      | some j' =>
        rw [hi] at h; cases h
        have := ih hi
        simp only [modL, List.modify_succ_cons, getL]
        by_cases hx : x = e.1
        · subst hx; rw [if_pos rfl, if_pos rfl, if_neg (fun e => hk e.symm)]
        · rw [if_neg hx, if_neg hx]; exact this
theorem getL_push {l : Ents} {k : Int} (v : Value) (c : Nat) (h : getL l k = none) (x : Int) : getL (l ++ [(k, v, c)]) x = if x = k then some v else getL l x := by
  induction l with
  | nil => simp [getL]
  | cons e l ih =>
    simp only [getL] at h
    by_cases hk : k = e.1
    · rw [if_pos hk] at h; cases h
    · rw [if_neg hk] at h
      simp only [List.cons_append, getL, ih h]
      by_cases hx : x = e.1
      · subst hx; rw [if_pos rfl, if_neg (fun e => hk e.symm), if_pos rfl]
      · rw [if_neg hx, if_neg hx]

section
variable {P : Program} {t kt et : TypeId}
theorem map_find (hk : P.underlying kt = some (.int .i64)) (l : Ents) (k : Int) (w : World) : (Instr.findKey kt (.int .i64 k) (entsOf l).toList).run P w =
    .ok (match idxL l k, getL l k with | some j, some v => some (j, v) | _, _ => none) w := by
  unfold Instr.findKey entsOf
  simp only [Sem.run_bind, run_underlying hk, Result.andThen, List.toList_toArray, findNow_ents]
  cases idxL l k <;> cases getL l k <;> simp
theorem map_check (hk : P.underlying kt = some (.int .i64)) (k : Int) (e : Bool) (w : World) : (Instr.checkKey e 10000 kt (.int .i64 k)).run P w = .ok () w := by
  unfold Instr.checkKey
  simp only [Sem.run_bind, run_underlying hk, Result.andThen]
  rfl
/-- m[k]. -/
theorem St.look {b n : Nat} {f : Int → Option Value} {R : SP} {F : Fr} {w : World} (h : St (MapP b n f * R) F w) (ht : P.underlying t = some (.map kt et)) (hk : P.underlying kt = some (.int .i64)) {z : Value} {i : TypeInfo} (hi : P.info? et = some i) (hz : i.zero = some z) (k : Int) :
    (Instr.lookup t (.map (some b)) (.int .i64 k) false).run P w = .ok ((f k).getD z) w := by
  obtain ⟨l, c, ⟨_, hf⟩, h1⟩ := St.map.1 h
  have hg := MapKept.run_getObj_map (P := P) h1.at
  unfold Instr.lookup
  simp only [Sem.run_bind, run_underlying ht, Result.andThen, hg, map_check hk, map_find hk, Sem.run_pure]
  cases hx : getL l k with
  | none =>
    rw [← hf k, hx, idx_none hx]
    simp [zeroValue, typeInfo, hi, hz]
  | some v =>
    obtain ⟨j, hj, _⟩ := idx_get hx
    rw [← hf k, hx, hj]
    simp
/-- A function on integers, turned at one place. -/
def updI {α : Type} (f : Int → α) (k : Int) (v : α) : Int → α := fun x => if x = k then v else f x
/-- m[k] = v. -/
theorem St.put {b n : Nat} {f : Int → Option Value} {R : SP} {F : Fr} {w : World} (h : St (MapP b n f * R) F w) (ht : P.underlying t = some (.map kt et)) (hk : P.underlying kt = some (.int .i64)) (k : Int) (v : Value) :
    ∃ w', (Instr.mapUpdate t (.map (some b)) (.int .i64 k) v).run P w = .ok () w' ∧ St (MapP b (if (f k).isSome then n else n + 1) (updI f k (some v)) * R) F w' := by
  obtain ⟨l, c, ⟨hn, hf⟩, h1⟩ := St.map.1 h
  have hg := MapKept.run_getObj_map (P := P) h1.at
  have hs := fun o => MapKept.run_setObj_map (P := P) o h1.at
  have hturn : ∀ o, St (pts b o * R) F { w with heap := w.heap.setIfInBounds b o } := fun o => by
    obtain ⟨hlt, _⟩ := Array.getElem?_eq_some_iff.1 h1.at
    refine h1.turn ⟨rfl, rfl, rfl, by simp, fun k _ hne => ?_⟩ (by simp [hlt])
    exact Array.getElem?_setIfInBounds_ne (fun e => hne (by rw [e]))
  unfold Instr.mapUpdate
  simp only [Sem.run_bind, run_underlying ht, Result.andThen, hg, map_check hk, map_find hk, Sem.run_pure]
  cases hx : getL l k with
  | none =>
    rw [← hf k, hx, idx_none hx]
    simp only [hs]
    refine ⟨_, rfl, St.map.2 ⟨l ++ [(k, v, c)], c + 1, ⟨by simp [hn], fun x => ?_⟩, ?_⟩⟩
    · rw [getL_push v c hx, hf]; rfl
    · have e : entsOf (l ++ [(k, v, c)]) = (entsOf l).push { key := .int .i64 k, val := v, born := c } := by simp [entsOf]
      rw [e]
      exact hturn _
  | some v0 =>
    obtain ⟨j, hj, hjl, e0, he0, hek⟩ := idx_get hx
    rw [← hf k, hx, hj]
    have hkey : ((entsOf l)[j]?).map (·.key) = some (.int .i64 k) := by simp [entsOf, he0, hek]
    have hstay : (Instr.keyThatStays (.int .i64 k) (.int .i64 k)).run P w = .ok (.int .i64 k) w := by
      unfold Instr.keyThatStays
      have : Instr.sameBits 10000 (.int .i64 k) (.int .i64 k) = true := by simp [Instr.sameBits]
      simp [this]
    simp only [hkey, Option.getD_some, Sem.run_bind, hstay, Result.andThen, hs]
    refine ⟨_, rfl, St.map.2 ⟨modL l j v, c, ⟨by simp [modL, hn], fun x => ?_⟩, ?_⟩⟩
    · rw [getL_mod hj, hf]; rfl
    · have e : entsOf (modL l j v) = (entsOf l).modify j fun e => { e with key := .int .i64 k, val := v } := by
        unfold entsOf modL
        apply Array.ext'
        rw [Array.toList_modify]
        simp only [List.toList_toArray]
        apply List.ext_getElem?
        intro m
        simp only [List.getElem?_map, List.getElem?_modify]
        by_cases hm : j = m
        · subst hm
          simp [he0, hek]
        · simp [hm]
      rw [e]
      exact hturn _
/-- len(m). -/
theorem St.mapLen {b n : Nat} {f : Int → Option Value} {R : SP} {F : Fr} {w : World} (h : St (MapP b n f * R) F w) (ht : P.underlying t = some (.map kt et)) (ty : TypeId) :
    (Builtin.len_ #[t] ty #[.map (some b)]).run P w = .ok (goInt n) w := by
  obtain ⟨l, c, ⟨hn, _⟩, h1⟩ := St.map.1 h
  have hg := MapKept.run_getObj_map (P := P) h1.at
  simp [Builtin.len_, run_underlying ht, hg, entsOf, hn, Result.andThen]
end
end Go.Proofs.Ytknmlfolbapmpaa
