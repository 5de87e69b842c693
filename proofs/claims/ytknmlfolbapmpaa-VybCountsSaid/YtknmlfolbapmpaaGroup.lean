import Derived.Test.YtknmlfolbapmpaaMap
namespace Go.Proofs.Ytknmlfolbapmpaa
open Go Go.RowKit

/-- One part for each key. -/
def Stars : List Int → (Int → SP) → SP
  | [], _ => 1
  | k :: ks, P => P k * Stars ks P
theorem Stars.congr {ks : List Int} {P Q : Int → SP} (h : ∀ k ∈ ks, P k = Q k) : Stars ks P = Stars ks Q := by
  induction ks with
  | nil => rfl
  | cons k ks ih =>
    show P k * Stars ks P = Q k * Stars ks Q
    rw [h k (List.mem_cons_self ..), ih fun x hx => h x (List.mem_cons_of_mem _ hx)]
theorem Stars.erase {ks : List Int} {P : Int → SP} {k : Int} (h : k ∈ ks) : Stars ks P = P k * Stars (ks.erase k) P := by
  induction ks with
  | nil => cases h
  | cons x ks ih =>
    by_cases hx : x = k
    · subst hx
      rw [List.erase_cons_head]
      rfl
    · rw [List.erase_cons_tail (by simpa using hx)]
      show P x * Stars ks P = P k * (P x * Stars (ks.erase k) P)
      rw [ih (by rcases List.mem_cons.1 h with e | e; exact absurd e.symm hx; exact e), SP.mul_left_comm]

/-- A map of slices of the call's own, of elements of type E. -/
def GroupP (E : TypeId) (b : Nat) (g : Int → List Value) : SP := SP.ex fun x : List Int × (Int → Value) =>
  SP.wh (x.1.Nodup ∧ ∀ k, k ∉ x.1 → g k = []) (MapP b x.1.length (fun k => if k ∈ x.1 then some (x.2 k) else none) * Stars x.1 fun k => RowP E (x.2 k) (g k))
theorem St.group {E : TypeId} {b : Nat} {g : Int → List Value} {R : SP} {F : Fr} {w : World} : St (GroupP E b g * R) F w ↔ ∃ (ks : List Int) (vf : Int → Value), (ks.Nodup ∧ ∀ k, k ∉ ks → g k = []) ∧
    St ((MapP b ks.length (fun k => if k ∈ ks then some (vf k) else none) * Stars ks fun k => RowP E (vf k) (g k)) * R) F w := by
  unfold GroupP
  rw [St.exm]
  constructor
  · rintro ⟨⟨l, c⟩, h⟩; exact ⟨l, c, St.whm.1 h⟩
  · rintro ⟨l, c, h⟩; exact ⟨(l, c), St.whm.2 h⟩
theorem St.groupNew (E : TypeId) {b : Nat} {R : SP} {F : Fr} {w : World} (h : St (MapP b 0 (fun _ => none) * R) F w) : St (GroupP E b (fun _ => []) * R) F w :=
  St.group.2 ⟨[], fun _ => .slice none 0 0, ⟨List.nodup_nil, fun _ _ => rfl⟩, by
    have e : (fun k : Int => if k ∈ ([] : List Int) then some (Value.slice none 0 0) else none) = fun _ => none := by funext k; simp
    rw [e]
    exact h.to (by show _ = MapP b 0 (fun _ => none) * 1 * R; rw [SP.mul_one])⟩
/-- One slice of it in the hand. -/
theorem St.groupOpen {E : TypeId} {b : Nat} {g : Int → List Value} {R : SP} {F : Fr} {w : World} (h : St (GroupP E b g * R) F w) (k : Int) :
    ∃ (n : Nat) (f : Int → Option Value) (X : SP), St (RowP E ((f k).getD (.slice none 0 0)) (g k) * (MapP b n f * (X * R))) F w ∧
      ∀ (v : Value) (xs : List Value) (R' : SP) (F' : Fr) (w' : World), St (RowP E v xs * (MapP b (if (f k).isSome then n else n + 1) (updI f k (some v)) * (X * R'))) F' w' → St (GroupP E b (updI g k xs) * R') F' w' := by
  obtain ⟨ks, vf, ⟨hnd, hno⟩, h1⟩ := St.group.1 h
  by_cases hk : k ∈ ks
  · refine ⟨ks.length, fun k => if k ∈ ks then some (vf k) else none, Stars (ks.erase k) fun k => RowP E (vf k) (g k), ?_, ?_⟩
    · rw [Stars.erase hk] at h1
      simp only [if_pos hk, Option.getD_some]
      exact h1.to (by simp only [SP.mul_assoc, SP.mul_left_comm, SP.mul_comm])
    · intro v xs R' F' w' h2
      refine St.group.2 ⟨ks, updI vf k v, ⟨hnd, fun x hx => ?_⟩, ?_⟩
      · have : x ≠ k := fun e => hx (by rw [e]; exact hk)
        simp only [updI, if_neg this]; exact hno x hx
      · have e1 : (fun x => if x ∈ ks then some (updI vf k v x) else none) = updI (fun k => if k ∈ ks then some (vf k) else none) k (some v) := by
          funext x
          by_cases hx : x = k
          · subst hx; simp [updI, hk]
          · simp [updI, hx]
        have e2 : (Stars (ks.erase k) fun x => RowP E (updI vf k v x) (updI g k xs x)) = Stars (ks.erase k) fun k => RowP E (vf k) (g k) := Stars.congr fun x hx => by
          have : x ≠ k := fun e => by rw [e] at hx; exact (List.Nodup.not_mem_erase hnd) hx
          simp only [updI, if_neg this]
        rw [Stars.erase hk, e2, e1]
        simp only [if_pos hk, Option.isSome_some, if_true] at h2
        have e3 : updI vf k v k = v := by simp [updI]
        have e4 : updI g k xs k = xs := by simp [updI]
        rw [e3, e4]
        exact h2.to (by simp only [SP.mul_assoc, SP.mul_left_comm, SP.mul_comm])
  · refine ⟨ks.length, fun k => if k ∈ ks then some (vf k) else none, Stars ks fun k => RowP E (vf k) (g k), ?_, ?_⟩
    · simp only [if_neg hk, Option.getD_none, hno k hk]
      have h2 := h1.to (Q := 1 * (MapP b ks.length (fun k => if k ∈ ks then some (vf k) else none) * ((Stars ks fun k => RowP E (vf k) (g k)) * R))) (by rw [SP.one_mul, SP.mul_assoc])
      rw [RowP.nil E] at h2
      exact h2
    · intro v xs R' F' w' h2
      refine St.group.2 ⟨k :: ks, updI vf k v, ⟨List.nodup_cons.2 ⟨hk, hnd⟩, fun x hx => ?_⟩, ?_⟩
      · rw [List.mem_cons, not_or] at hx
        simp only [updI, if_neg hx.1]; exact hno x hx.2
      · have e1 : (fun x => if x ∈ k :: ks then some (updI vf k v x) else none) = updI (fun k => if k ∈ ks then some (vf k) else none) k (some v) := by
          funext x
          by_cases hx : x = k
          · subst hx; simp [updI]
          · simp [updI, hx]
        have e2 : (Stars ks fun x => RowP E (updI vf k v x) (updI g k xs x)) = Stars ks fun k => RowP E (vf k) (g k) := Stars.congr fun x hx => by
          have : x ≠ k := fun e => hk (by rw [← e]; exact hx)
          simp only [updI, if_neg this]
        have e5 : (Stars (k :: ks) fun x => RowP E (updI vf k v x) (updI g k xs x)) = RowP E v xs * Stars ks fun k => RowP E (vf k) (g k) := by
          show RowP E (updI vf k v k) (updI g k xs k) * (Stars ks fun x => RowP E (updI vf k v x) (updI g k xs x)) = _
          rw [e2]
          simp [updI]
        rw [e1, e5]
        simp only [if_neg hk, Option.isSome_none, Bool.false_eq_true, if_false] at h2
        rw [List.length_cons]
        exact h2.to (by simp only [SP.mul_assoc, SP.mul_left_comm, SP.mul_comm])
end Go.Proofs.Ytknmlfolbapmpaa
