import Derived.Test.YtknmlfolbapmpaaIt2
import Derived.Shelf.Abstract
namespace Go.Proofs.Ytknmlfolbapmpaa
open Go Go.RowKit
attribute [local go_sem] Oper.semAt_some

theorem St.boxNew {R : SP} {F : Fr} {w : World} (h : St R F w) (v : Value) (T : TypeId) : St (boxP w.heap.size v T * R) F (w.alloc (.cells #[v] T)) := h.alloc _

/-- bits.Set.All. -/
theorem bitsAll_tr (b : Nat) : Tr Try.prog 97 #[.pointer (some ⟨b, 0, none⟩)] 1 (fun k : Nat => .func (.func 116) #[] #[.pointer (some ⟨k, 0, none⟩)]) (fun k => boxP k (.pointer (some ⟨b, 0, none⟩)) 89) := by
  intro F w h
  go_enter Try.func97, Try.ntmps97
  go_wp2
  go_ret
  exact ⟨w.heap.size, rfl, (h.boxNew _ _).unmul1⟩
/-- mark.Marker.All. -/
theorem mkAll_tr (b : Nat) : Tr Try.prog 95 #[.pointer (some ⟨b, 0, none⟩)] 1 (fun k : Nat => .func (.func 115) #[] #[.pointer (some ⟨k, 0, none⟩)]) (fun k => boxP k (.pointer (some ⟨b, 0, none⟩)) 33) := by
  intro F w h
  go_enter Try.func95, Try.ntmps95
  go_wp2
  go_ret
  exact ⟨w.heap.size, rfl, (h.boxNew _ _).unmul1⟩
/-- arena.Arena.All. -/
theorem arAll_tr (b : Nat) : Tr Try.prog 61 #[.pointer (some ⟨b, 0, none⟩)] 1 (fun k : Nat => .func (.func 96) #[] #[.pointer (some ⟨k, 0, none⟩)]) (fun k => boxP k (.pointer (some ⟨b, 0, none⟩)) 28) := by
  intro F w h
  go_enter Try.func61, Try.ntmps61
  go_wp2
  go_ret
  exact ⟨w.heap.size, rfl, (h.boxNew _ _).unmul1⟩
/-- cell.Points. -/
theorem points_tr (b r : Nat) : Tr Try.prog 59 #[.pointer (some ⟨b, 0, none⟩), .int .i64 r] 1 (fun k : Nat × Nat => .func (.func 94) #[] #[.pointer (some ⟨k.1, 0, none⟩), .pointer (some ⟨k.2, 0, none⟩)])
    (fun k => boxP k.1 (.pointer (some ⟨b, 0, none⟩)) 28 * boxP k.2 (.int .i64 r) 36) := by
  intro F w h
  go_enter Try.func59, Try.ntmps59
  go_wp2
  go_ret
  have h1 := ((h.boxNew (.pointer (some ⟨b, 0, none⟩)) 28).boxNew (.int .i64 r) 36)
  rw [World.size_alloc] at h1
  exact ⟨(w.heap.size, w.heap.size + 1), rfl, (h1.to (Q := boxP w.heap.size (.pointer (some ⟨b, 0, none⟩)) 28 * boxP (w.heap.size + 1) (.int .i64 r) 36 * 1) (by simp only [SP.mul_assoc, SP.mul_left_comm, SP.mul_comm])).unmul1⟩
/-- arena.Arena.Cells. -/
theorem arCells_tr (b : Nat) (p : Int) : Tr Try.prog 44 #[.pointer (some ⟨b, 0, none⟩), .int .i64 p] 1 (fun k : Nat × Nat => .func (.func 86) #[] #[.pointer (some ⟨k.1, 0, none⟩), .pointer (some ⟨k.2, 0, none⟩)])
    (fun k => boxP k.1 (.pointer (some ⟨b, 0, none⟩)) 28 * boxP k.2 (.int .i64 p) 3) := by
  intro F w h
  go_enter Try.func44, Try.ntmps44
  go_wp2
  go_ret
  have h1 := ((h.boxNew (.pointer (some ⟨b, 0, none⟩)) 28).boxNew (.int .i64 p) 3)
  rw [World.size_alloc] at h1
  exact ⟨(w.heap.size, w.heap.size + 1), rfl, (h1.to (Q := boxP w.heap.size (.pointer (some ⟨b, 0, none⟩)) 28 * boxP (w.heap.size + 1) (.int .i64 p) 3 * 1) (by simp only [SP.mul_assoc, SP.mul_left_comm, SP.mul_comm])).unmul1⟩

/-- What is beside the marked ones' set. -/
def mkIn (i : MkId) (I : Nat → Mk → SP) (Z : SP) (j : Nat) (S : Nat → Bool) : SP := SP.ex fun M => SP.wh (M.md = S) (pts i.m (mkObj i) * (SetP i.sb i.N M.sc * (GreyP i.g i.room M.over M.stk * (I j M * Z))))
theorem St.mkIn {i : MkId} {I : Nat → Mk → SP} {Z : SP} {j : Nat} {M : Mk} {X : SP} {F : Fr} {w : World} (h : St (MarkP i M * (I j M * Z) * X) F w) : St (SetP i.mb i.N M.md * mkIn i I Z j M.md * X) F w := by
  have h1 : St (MarkP i M * (I j M * Z * X)) F w := h.to (by simp only [SP.mul_assoc, SP.mul_left_comm, SP.mul_comm])
  have h2 : St ((pts i.m (mkObj i) * (SetP i.sb i.N M.sc * (GreyP i.g i.room M.over M.stk * (I j M * Z)))) * (SetP i.mb i.N M.md * X)) F w := (St.markMb.1 h1).to (by simp only [SP.mul_assoc, SP.mul_left_comm, SP.mul_comm])
  exact (h2.impm (Q := Go.Proofs.Ytknmlfolbapmpaa.mkIn i I Z j M.md) (fun x hx => ⟨M, rfl, hx⟩)).to (by simp only [SP.mul_assoc, SP.mul_left_comm, SP.mul_comm])
theorem St.mkOut {i : MkId} {I : Nat → Mk → SP} {Z : SP} {j : Nat} {S : Nat → Bool} {X : SP} {F : Fr} {w : World} (h : St (SetP i.mb i.N S * Go.Proofs.Ytknmlfolbapmpaa.mkIn i I Z j S * X) F w) : ∃ M : Mk, M.md = S ∧ St (MarkP i M * (I j M * Z) * X) F w := by
  have h1 : St (Go.Proofs.Ytknmlfolbapmpaa.mkIn i I Z j S * (SetP i.mb i.N S * X)) F w := h.to (by simp only [SP.mul_assoc, SP.mul_left_comm, SP.mul_comm])
  obtain ⟨M, h2⟩ := St.exm.1 h1
  obtain ⟨rfl, h3⟩ := St.whm.1 h2
  refine ⟨M, rfl, ?_⟩
  have h4 : St (SetP i.mb i.N M.md * (pts i.m (mkObj i) * (SetP i.sb i.N M.sc * (GreyP i.g i.room M.over M.stk * ((I j M * Z) * X))))) F w := h3.to (by simp only [SP.mul_assoc, SP.mul_left_comm, SP.mul_comm])
  exact (St.markMb.2 h4).to (SP.mul_assoc _ _ _).symm

set_option maxRecDepth 100000 in
/-- The function that mark.Marker.All hands back. -/
theorem mkAll1_it (i : MkId) (k : Nat) (I : Nat → Mk → SP) (M0 : Mk) (hskip : ∀ j M x, M.md j = false → I j M x → I (j + 1) M x) :
    ItC (ι := Nat × Mk) 115 #[.pointer (some ⟨k, 0, none⟩)] (boxP k (.pointer (some ⟨i.m, 0, none⟩)) 33 * (MarkP i M0 * I 0 M0))
      (SP.ex fun M => MarkP i M * I i.N M) (fun x => x.1 < i.N ∧ x.2.md x.1 = true) (fun x => #[.int .i64 x.1]) (fun x => MarkP i x.2 * I x.1 x.2) (fun x => SP.ex fun M => MarkP i M * I (x.1 + 1) M) := by
  intro l R Rx hY F w h
  have hY' := Lib.hid hY
  clear hY
  have h0 := h.boxNew (.func (.yield l) #[] #[]) 37
  have c1 := (h0.to (Q := boxP k (.pointer (some ⟨i.m, 0, none⟩)) 33 * (boxP w.heap.size (.func (.yield l) #[] #[]) 37 * (MarkP i M0 * (I 0 M0 * R)))) (by simp only [SP.mul_assoc, SP.mul_left_comm, SP.mul_comm])).box
  have c2 := (h0.to (Q := MarkP i M0 * (boxP k (.pointer (some ⟨i.m, 0, none⟩)) 33 * (boxP w.heap.size (.func (.yield l) #[] #[]) 37 * (I 0 M0 * R)))) (by simp only [SP.mul_assoc, SP.mul_left_comm, SP.mul_comm])).markF
  obtain ⟨_, c2, _, _⟩ := c2
  have H0 := Lib.hid h0
  clear h h0
  refine calls_of_marks Try.func115 rfl ?_
  simp only [Try.ntmps115, List.size_toArray, List.length_cons, List.length_nil, Nat.reduceAdd, Nat.reduceSub, Array.replicate_succ, Array.replicate_zero, List.push_toArray, List.append_toArray, List.nil_append, List.cons_append]
  go_wp2_with fail
  clear c1 c2
  refine ((bitsAll_tr i.mb).use (H0.out.mul1.to (SP.mul_comm _ _))).mono ?_
  rintro e w1 ⟨kb, rfl, h1⟩
  have c3 := (h1.to (Q := boxP w.heap.size (.func (.yield l) #[] #[]) 37 * (boxP kb (.pointer (some ⟨i.mb, 0, none⟩)) 89 * (boxP k (.pointer (some ⟨i.m, 0, none⟩)) 33 * (MarkP i M0 * I 0 M0) * R))) (by simp only [SP.mul_assoc, SP.mul_left_comm, SP.mul_comm])).box
  go_wp2_with fail
  have hc3 := Lib.hid c3
  clear c3
  have h2 : St (MarkP i M0 * (I 0 M0 * (boxP w.heap.size (.func (.yield l) #[] #[]) 37 * R)) * (boxP kb (.pointer (some ⟨i.mb, 0, none⟩)) 89 * boxP k (.pointer (some ⟨i.m, 0, none⟩)) 33)) F w1 := h1.to (by simp only [SP.mul_assoc, SP.mul_left_comm, SP.mul_comm])
  have h3 := h2.mkIn
  have h4 : St (boxP kb (.pointer (some ⟨i.mb, 0, none⟩)) 89 * (SetP i.mb i.N M0.md * mkIn i I (boxP w.heap.size (.func (.yield l) #[] #[]) 37 * R) 0 M0.md)) F w1 :=
    (h3.to (Q := boxP kb (.pointer (some ⟨i.mb, 0, none⟩)) 89 * (SetP i.mb i.N M0.md * mkIn i I (boxP w.heap.size (.func (.yield l) #[] #[]) 37 * R) 0 M0.md) * boxP k (.pointer (some ⟨i.m, 0, none⟩)) 33) (by simp only [SP.mul_assoc, SP.mul_left_comm, SP.mul_comm])).drop
  have wF : ∀ f, Fence.wide.fn f := fun _ => trivial
  have wD : Fence.wide.depth = none := rfl
  refine rangeFunc_sl [] (bitsAll1_it i.mb i.N kb (mkIn i I (boxP w.heap.size (.func (.yield l) #[] #[]) 37 * R)) M0.md ?_) rfl (enters_of Try.func116 (by kernel_rfl) rfl) (fun _ _ => rfl) (fun c => SP.wh (c = .ret) Rx)
    (fun x => { tmps := #[.func (.yield l) #[] #[], .pointer (some ⟨k, 0, none⟩), .pointer (some ⟨w.heap.size, 0, none⟩), .int .i64 x.1, .pointer (some ⟨i.m, 0, none⟩), .pointer (some ⟨i.m, 0, none⟩), .pointer (some ⟨i.m, 1, none⟩), .pointer (some ⟨i.mb, 0, none⟩), .func (.func 116) #[] #[.pointer (some ⟨kb, 0, none⟩)], .int .i64 x.1, undef, undef, undef, undef], defers := [] }) h4.mul1 ?assign ?body ?done ?stop
  · intro j S x hS hx
    obtain ⟨M, rfl, hx⟩ := hx
    exact ⟨M, rfl, by
      have : (pts i.m (mkObj i) * (SetP i.sb i.N M.sc * (GreyP i.g i.room M.over M.stk * (I j M * (boxP w.heap.size (.func (.yield l) #[] #[]) 37 * R))))) = I j M * (pts i.m (mkObj i) * (SetP i.sb i.N M.sc * (GreyP i.g i.room M.over M.stk * (boxP w.heap.size (.func (.yield l) #[] #[]) 37 * R)))) := (by simp only [SP.mul_assoc, SP.mul_left_comm, SP.mul_comm])
      rw [this] at hx
      have h2 : (pts i.m (mkObj i) * (SetP i.sb i.N M.sc * (GreyP i.g i.room M.over M.stk * (I (j + 1) M * (boxP w.heap.size (.func (.yield l) #[] #[]) 37 * R))))) = I (j + 1) M * (pts i.m (mkObj i) * (SetP i.sb i.N M.sc * (GreyP i.g i.room M.over M.stk * (boxP w.heap.size (.func (.yield l) #[] #[]) 37 * R)))) := (by simp only [SP.mul_assoc, SP.mul_left_comm, SP.mul_comm])
      rw [h2]
      obtain ⟨a, b, ha, r⟩ := hx
      exact ⟨a, b, hskip j M a hS ha, r⟩⟩
  case assign =>
    intro l2 x W K hx hK
    gi_wp2
    exact hK
  case body =>
    rintro l2 ⟨j, S⟩ F' W ⟨hj, hS⟩ _ h5
    obtain ⟨M, rfl, h6⟩ := h5.mul1.mkOut
    have c3 := (h6.to (Q := boxP w.heap.size (.func (.yield l) #[] #[]) 37 * (MarkP i M * (I j M * R))) (by rw [SP.mul_one]; simp only [SP.mul_assoc, SP.mul_left_comm, SP.mul_comm])).box
    have hp : St (MarkP i M * I j M * R * boxP w.heap.size (.func (.yield l) #[] #[]) 37) F' W := h6.unmul1.to (by simp only [SP.mul_assoc, SP.mul_left_comm, SP.mul_comm])
    obtain ⟨f1, t1, a1, b1, hy, hR⟩ := (hY'.out (j, M) ⟨hj, hS⟩).use hp 0
    have HR := Lib.hid hR
    clear hR hp h5 h6
    try dsimp only at hy
    dsimp only
    gi_wp2_with fail
    refine RoundIn.mono (show RoundIn (Fence.wide.inRound l2) 0 Try.prog l f1 t1 a1 b1 W _ from HR.out) ?_
    rintro e w3 (⟨rfl, h3⟩ | ⟨rfl, h3⟩)
    · have h7 : St ((SP.ex fun M => MarkP i M * I (j + 1) M) * (R * boxP w.heap.size (.func (.yield l) #[] #[]) 37)) F' w3 := h3.to (SP.mul_assoc _ _ _)
      obtain ⟨M2, h8⟩ := St.exm.1 h7
      have h9 : St (MarkP i M2 * (I (j + 1) M2 * (boxP w.heap.size (.func (.yield l) #[] #[]) 37 * R)) * 1) F' w3 := by rw [SP.mul_one]; exact h8.to (by simp only [SP.mul_assoc, SP.mul_left_comm, SP.mul_comm])
      have H9 := Lib.hid (St.ex (P := fun S => SetP i.mb i.N S * mkIn i I (boxP w.heap.size (.func (.yield l) #[] #[]) 37 * R) (j + 1) S).2 ⟨M2.md, h9.mkIn.unmul1⟩)
      clear h3 h7 h8 h9
      gi_wp2_with fail
      exact H9.out
    · gi_wp2_with fail
      exact St.wh.2 ⟨rfl, h3⟩
  case done =>
    intro d W h5
    have h6 : St ((SP.ex fun S => SetP i.mb i.N S * mkIn i I (boxP w.heap.size (.func (.yield l) #[] #[]) 37 * R) i.N S) * Marks [d]) F W := h5
    obtain ⟨S, h7⟩ := St.exm.1 h6
    obtain ⟨M, rfl, h8⟩ := h7.mkOut
    refine leaves_marks (F := F) (Q := (SP.ex fun M => MarkP i M * I i.N M) * R) ?_ [d] W ?_
    · intro w' hw'
      exact ⟨_, results_none rfl _ _ _, rfl, .inl hw'⟩
    · have h9 : St ((MarkP i M * I i.N M) * (R * Marks [d])) F W := (h8.to (Q := (MarkP i M * I i.N M) * (R * Marks [d]) * boxP w.heap.size (.func (.yield l) #[] #[]) 37) (by simp only [SP.mul_assoc, SP.mul_left_comm, SP.mul_comm])).drop
      exact (h9.impm (Q := SP.ex fun M => MarkP i M * I i.N M) (fun x hx => ⟨M, hx⟩)).to (by simp only [SP.mul_assoc, SP.mul_left_comm, SP.mul_comm])
  case stop =>
    intro c d W h5
    obtain ⟨rfl, h6⟩ := St.whm.1 h5
    refine wp_ret ?_
    refine leaves_marks (F := F) (Q := Rx) ?_ [d] W (h6.to (SP.mul_comm _ _))
    intro w' hw'
    exact ⟨_, results_none rfl _ _ _, rfl, .inr hw'⟩
end Go.Proofs.Ytknmlfolbapmpaa
