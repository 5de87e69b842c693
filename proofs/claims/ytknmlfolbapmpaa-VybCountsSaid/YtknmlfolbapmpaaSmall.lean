import Derived.Test.YtknmlfolbapmpaaMade
namespace Go.Proofs.Ytknmlfolbapmpaa
open Go Go.RowKit

set_option maxRecDepth 100000 in
/-- Graph.Small. -/
theorem small_tr (o1 o2 : Option Addr) (n1 c1 n2 c2 : Nat) : Tr0 Try.prog 18 #[.agg #[.slice o1 n1 c1, .slice o2 n2 c2]] 1 (.bool (decide (n1 ≤ 40) && decide (n2 ≤ 120))) 1 := by
  intro F w h
  by_cases h1 : n1 ≤ 40
  · have h1' : (n1 : Int) ≤ 40 := by omega
    by_cases h2 : n2 ≤ 120
    · have h2' : (n2 : Int) ≤ 120 := by omega
      go_enter Try.func18, Try.ntmps18
      go_wp2
      go_ret
      exact ⟨by simp [h1, h2], h.grown0 (World.grownBy_alloc w _ none)⟩
    · have h2' : ¬ (n2 : Int) ≤ 120 := by omega
      go_enter Try.func18, Try.ntmps18
      go_wp2
      go_ret
      exact ⟨by simp [h1, h2], h.grown0 (World.grownBy_alloc w _ none)⟩
  · have h1' : ¬ (n1 : Int) ≤ 40 := by omega
    go_enter Try.func18, Try.ntmps18
    go_wp2
    go_ret
    exact ⟨by simp [h1], h.grown0 (World.grownBy_alloc w _ none)⟩
/-- Made, of a graph that the caller has typed. -/
theorem made_lit (fs : List Nat) (hf : ∀ f ∈ fs, f < 256) (hfs : fs.length ≤ 40) (b c : Nat) (T : TypeId) {R : SP} (F : Fr) (w : World) (h : St (pts b (.cells (fs.map fun f : Nat => Value.int .u8 (f : Int)).toArray T (0, 0)) * R) F w) :
    Calls Try.prog 19 #[.agg #[.slice (some ⟨b, 0, none⟩) fs.length c, .slice none 0 0]] w fun e w' => ∃ (i : ArId) (A : Ar) (l : List Nat) (v : Value) (m : Nat), Madek A l fs ∧
      e = .returned (.tuple #[.pointer (some ⟨i.a, 0, none⟩), v, .map (some m)]) ∧ St (ArenaP i A * (RowP 36 v (l.map refV) * GroupP 36 m (outG A l)) * R) F w' := by
  have h0 : St (1 * (pts b (.cells (fs.map fun f : Nat => Value.int .u8 (f : Int)).toArray T (0, 0)) * R)) F w := by rw [SP.one_mul]; exact h
  obtain ⟨r, hr, hd, hs⟩ := h0.part
  obtain ⟨r1, r2, hr1, hr2, hdj, rfl⟩ := hr
  cases hr1
  have hb : (F.plus ((Hp.one b (.cells (fs.map fun f : Nat => Value.int .u8 (f : Int)).toArray T (0, 0))).un r2)).hp b = some (.cells (fs.map fun f : Nat => Value.int .u8 (f : Int)).toArray T (0, 0)) :=
    Hp.un_right hd (Hp.un_left (Hp.one_self _ _))
  refine (made _ _ (.slice none 0 0) fs [] ⟨some ⟨b, 0, none⟩, c, rfl, ?_⟩ ⟨none, 0, rfl, fun _ _ h => by simp at h⟩ hfs (by simp) w hs).mono ?_
  · intro j f hj
    refine ⟨hf f (List.mem_iff_getElem?.2 ⟨j, hj⟩), ⟨b, 0, none⟩, rfl, fun W hW => ?_⟩
    have hadd : (⟨b, 0, none⟩ : Addr).add j = ⟨b, j, none⟩ := by unfold Addr.add; split <;> simp_all
    rw [hadd, cell_of (hW b _ hb)]
    simp [hj]
  · rintro e w' ⟨i, A, l, v, m, hM, rfl, h1⟩
    refine ⟨i, A, l, v, m, hM, rfl, ?_⟩
    have h2 := h1.join (R := pts b (.cells (fs.map fun f : Nat => Value.int .u8 (f : Int)).toArray T (0, 0)) * R) ⟨_, r2, rfl, hr2, hdj, rfl⟩ hd
    exact (h2.to (Q := ArenaP i A * (RowP 36 v (l.map refV) * GroupP 36 m (outG A l)) * R * pts b (.cells (fs.map fun f : Nat => Value.int .u8 (f : Int)).toArray T (0, 0))) (by simp only [SP.mul_assoc, SP.mul_left_comm, SP.mul_comm])).drop
end Go.Proofs.Ytknmlfolbapmpaa
