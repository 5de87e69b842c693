import Derived.Test.YtknmlfolbapmpaaIt3
namespace Go.Proofs.Ytknmlfolbapmpaa
open Go Go.RowKit
attribute [local go_sem] Oper.semAt_some

theorem SP.x4' (A B C D R : SP) : A * (B * (C * (D * R))) = D * (A * (B * (C * R))) := by rw [SP.mul_left_comm C, SP.mul_left_comm B, SP.mul_left_comm A]
/-- An arena apart from its set of taken cells, between two rounds. -/
def arIn (i : ArId) (A : Ar) (I : Nat → SP) (Z : SP) (j : Nat) (S : Nat → Bool) : SP := SP.wh ((A.np ≤ 64 ∧ A.free ≤ A.np) ∧ S = A.tk) (pts i.a (arObj i.pb i.wb i.tb A.np A.free) * (pts i.pb (pagesObj A) * (pts i.wb (wordsObj A) * (I j * Z))))
theorem St.arIn {i : ArId} {A : Ar} {I : Nat → SP} {Z : SP} {j : Nat} {X : SP} {F : Fr} {w : World} (h : St (ArenaP i A * (I j * Z) * X) F w) : St (SetP i.tb (32 * A.np + 1) A.tk * arIn i A I Z j A.tk * X) F w := by
  have h1 : St (ArenaP i A * (I j * Z * X)) F w := h.to (by simp only [SP.mul_assoc, SP.mul_left_comm, SP.mul_comm])
  obtain ⟨hn, h2⟩ := St.ar.1 h1
  have h3 : St (Go.Proofs.Ytknmlfolbapmpaa.arIn i A I Z j A.tk * (SetP i.tb (32 * A.np + 1) A.tk * X)) F w := by
    unfold Go.Proofs.Ytknmlfolbapmpaa.arIn
    exact St.whm.2 ⟨⟨hn, rfl⟩, h2.to (by simp only [SP.mul_assoc, SP.mul_left_comm, SP.mul_comm])⟩
  exact h3.to (by simp only [SP.mul_assoc, SP.mul_left_comm, SP.mul_comm])
theorem St.arOut {i : ArId} {A : Ar} {I : Nat → SP} {Z : SP} {j : Nat} {S : Nat → Bool} {X : SP} {F : Fr} {w : World} (h : St (SetP i.tb (32 * A.np + 1) S * Go.Proofs.Ytknmlfolbapmpaa.arIn i A I Z j S * X) F w) : S = A.tk ∧ St (ArenaP i A * (I j * Z) * X) F w := by
  have h1 : St (Go.Proofs.Ytknmlfolbapmpaa.arIn i A I Z j S * (SetP i.tb (32 * A.np + 1) S * X)) F w := h.to (by simp only [SP.mul_assoc, SP.mul_left_comm, SP.mul_comm])
  unfold Go.Proofs.Ytknmlfolbapmpaa.arIn at h1
  obtain ⟨⟨hn, rfl⟩, h2⟩ := St.whm.1 h1
  have h3 : St (ArenaP i A * (I j * Z * X)) F w := St.ar.2 ⟨hn, h2.to (by simp only [SP.mul_assoc, SP.mul_left_comm, SP.mul_comm])⟩
  exact ⟨rfl, h3.to (by simp only [SP.mul_assoc, SP.mul_left_comm, SP.mul_comm])⟩

set_option maxRecDepth 100000 in
/-- The function that arena.Arena.All hands back. -/
theorem arAll1_it (i : ArId) (A : Ar) (k : Nat) (I : Nat → SP) (hskip : ∀ j x, A.tk j = false → I j x → I (j + 1) x) :
    ItC (ι := Nat) 96 #[.pointer (some ⟨k, 0, none⟩)] (boxP k (.pointer (some ⟨i.a, 0, none⟩)) 28 * (ArenaP i A * I 0))
      (ArenaP i A * I (32 * A.np + 1)) (fun j => j < 32 * A.np + 1 ∧ A.tk j = true) (fun j => #[.int .i64 j]) (fun j => ArenaP i A * I j) (fun j => ArenaP i A * I (j + 1)) := by
  intro l R Rx hY F w h
  have hY' := Lib.hid hY
  clear hY
  have h0 := h.boxNew (.func (.yield l) #[] #[]) 37
  have c1 := (h0.to (Q := boxP k (.pointer (some ⟨i.a, 0, none⟩)) 28 * (boxP w.heap.size (.func (.yield l) #[] #[]) 37 * (ArenaP i A * (I 0 * R)))) (by simp only [SP.mul_assoc, SP.mul_left_comm, SP.mul_comm])).box
  have c2 := (St.ar.1 (h0.to (Q := ArenaP i A * (boxP k (.pointer (some ⟨i.a, 0, none⟩)) 28 * (boxP w.heap.size (.func (.yield l) #[] #[]) 37 * (I 0 * R)))) (by simp only [SP.mul_assoc, SP.mul_left_comm, SP.mul_comm]))).2.at
  have c2 : (w.alloc (.cells #[.func (.yield l) #[] #[]] 37)).cell? ⟨i.a, 2, none⟩ = some (.pointer (some ⟨i.tb, 0, none⟩)) := by rw [cell_of c2]; rfl
  have H0 := Lib.hid h0
  clear h h0
  refine calls_of_marks Try.func96 rfl ?_
  simp only [Try.ntmps96, List.size_toArray, List.length_cons, List.length_nil, Nat.reduceAdd, Nat.reduceSub, Array.replicate_succ, Array.replicate_zero, List.push_toArray, List.append_toArray, List.nil_append, List.cons_append]
  go_wp2_with fail
  clear c1 c2
  refine ((bitsAll_tr i.tb).use (H0.out.mul1.to (SP.mul_comm _ _))).mono ?_
  rintro e w1 ⟨kb, rfl, h1⟩
  have c3 := (h1.to (Q := boxP w.heap.size (.func (.yield l) #[] #[]) 37 * (boxP kb (.pointer (some ⟨i.tb, 0, none⟩)) 89 * (boxP k (.pointer (some ⟨i.a, 0, none⟩)) 28 * (ArenaP i A * I 0) * R))) (by simp only [SP.mul_assoc, SP.mul_left_comm, SP.mul_comm])).box
  go_wp2_with fail
  have hc3 := Lib.hid c3
  clear c3
  have h2 : St (ArenaP i A * (I 0 * (boxP w.heap.size (.func (.yield l) #[] #[]) 37 * R)) * (boxP kb (.pointer (some ⟨i.tb, 0, none⟩)) 89 * boxP k (.pointer (some ⟨i.a, 0, none⟩)) 28)) F w1 := h1.to (by simp only [SP.mul_assoc, SP.mul_left_comm, SP.mul_comm])
  have h3 := h2.arIn
  have h4 : St (boxP kb (.pointer (some ⟨i.tb, 0, none⟩)) 89 * (SetP i.tb (32 * A.np + 1) A.tk * arIn i A I (boxP w.heap.size (.func (.yield l) #[] #[]) 37 * R) 0 A.tk)) F w1 :=
    (h3.to (Q := boxP kb (.pointer (some ⟨i.tb, 0, none⟩)) 89 * (SetP i.tb (32 * A.np + 1) A.tk * arIn i A I (boxP w.heap.size (.func (.yield l) #[] #[]) 37 * R) 0 A.tk) * boxP k (.pointer (some ⟨i.a, 0, none⟩)) 28) (by simp only [SP.mul_assoc, SP.mul_left_comm, SP.mul_comm])).drop
  have wF : ∀ f, Fence.wide.fn f := fun _ => trivial
  have wD : Fence.wide.depth = none := rfl
  refine rangeFunc_sl [] (bitsAll1_it i.tb (32 * A.np + 1) kb (arIn i A I (boxP w.heap.size (.func (.yield l) #[] #[]) 37 * R)) A.tk ?_) rfl (enters_of Try.func116 (by kernel_rfl) rfl) (fun _ _ => rfl) (fun c => SP.wh (c = .ret) Rx)
    ?act h4.mul1 ?assign ?body ?done ?stop
  · intro j S x hS hx
    obtain ⟨⟨hn, rfl⟩, hx⟩ := hx
    refine ⟨⟨hn, rfl⟩, ?_⟩
    have e1 : pts i.a (arObj i.pb i.wb i.tb A.np A.free) * (pts i.pb (pagesObj A) * (pts i.wb (wordsObj A) * (I j * (boxP w.heap.size (.func (.yield l) #[] #[]) 37 * R)))) = I j * (pts i.a (arObj i.pb i.wb i.tb A.np A.free) * (pts i.pb (pagesObj A) * (pts i.wb (wordsObj A) * (boxP w.heap.size (.func (.yield l) #[] #[]) 37 * R)))) := SP.x4' _ _ _ _ _
    have e2 : pts i.a (arObj i.pb i.wb i.tb A.np A.free) * (pts i.pb (pagesObj A) * (pts i.wb (wordsObj A) * (I (j + 1) * (boxP w.heap.size (.func (.yield l) #[] #[]) 37 * R)))) = I (j + 1) * (pts i.a (arObj i.pb i.wb i.tb A.np A.free) * (pts i.pb (pagesObj A) * (pts i.wb (wordsObj A) * (boxP w.heap.size (.func (.yield l) #[] #[]) 37 * R)))) := SP.x4' _ _ _ _ _
    rw [e1] at hx
    rw [e2]
    obtain ⟨a, b, ha, r⟩ := hx
    exact ⟨a, b, hskip j a hS ha, r⟩
  case assign =>
    intro l2 x W K hx hK
    have HK := Lib.hid hK
    clear hK
    gi_wp2
    exact HK.out
  case body =>
    rintro l2 ⟨j, S⟩ F' W ⟨hj, hS⟩ _ h5
    obtain ⟨rfl, h6⟩ := h5.mul1.arOut
    have c3 := (h6.to (Q := boxP w.heap.size (.func (.yield l) #[] #[]) 37 * (ArenaP i A * (I j * R))) (by rw [SP.mul_one]; simp only [SP.mul_assoc, SP.mul_left_comm, SP.mul_comm])).box
    have hp : St (ArenaP i A * I j * R * boxP w.heap.size (.func (.yield l) #[] #[]) 37) F' W := h6.unmul1.to (by simp only [SP.mul_assoc, SP.mul_left_comm, SP.mul_comm])
    obtain ⟨f1, t1, a1, b1, hy, hR⟩ := (hY'.out j ⟨hj, hS⟩).use hp 0
    have HR := Lib.hid hR
    clear hR hp h5 h6
    try dsimp only at hy
    dsimp only
    gi_wp2_with fail
    refine RoundIn.mono (show RoundIn (Fence.wide.inRound l2) 0 Try.prog l f1 t1 a1 b1 W _ from HR.out) ?_
    rintro e w3 (⟨rfl, h3⟩ | ⟨rfl, h3⟩)
    · have h9 : St (ArenaP i A * (I (j + 1) * (boxP w.heap.size (.func (.yield l) #[] #[]) 37 * R)) * 1) F' w3 := by rw [SP.mul_one]; exact h3.to (by simp only [SP.mul_assoc, SP.mul_left_comm, SP.mul_comm])
      have H9 := Lib.hid (St.ex (P := fun S => SetP i.tb (32 * A.np + 1) S * arIn i A I (boxP w.heap.size (.func (.yield l) #[] #[]) 37 * R) (j + 1) S).2 ⟨A.tk, h9.arIn.unmul1⟩)
      clear h3 h9
      gi_wp2_with fail
      exact H9.out
    · gi_wp2_with fail
      exact St.wh.2 ⟨rfl, h3⟩
  case done =>
    intro d W h5
    have h6 : St ((SP.ex fun S => SetP i.tb (32 * A.np + 1) S * arIn i A I (boxP w.heap.size (.func (.yield l) #[] #[]) 37 * R) (32 * A.np + 1) S) * Marks [d]) F W := h5
    obtain ⟨S, h7⟩ := St.exm.1 h6
    obtain ⟨rfl, h8⟩ := h7.arOut
    refine leaves_marks (F := F) (Q := (ArenaP i A * I (32 * A.np + 1)) * R) ?_ [d] W ?_
    · intro w' hw'
      exact ⟨_, results_none rfl _ _ _, rfl, .inl hw'⟩
    · exact (h8.to (Q := Marks [d] * ((ArenaP i A * I (32 * A.np + 1)) * R) * boxP w.heap.size (.func (.yield l) #[] #[]) 37) (by simp only [SP.mul_assoc, SP.mul_left_comm, SP.mul_comm])).drop
  case stop =>
    intro c d W h5
    obtain ⟨rfl, h6⟩ := St.whm.1 h5
    refine wp_ret ?_
    refine leaves_marks (F := F) (Q := Rx) ?_ [d] W (h6.to (SP.mul_comm _ _))
    intro w' hw'
    exact ⟨_, results_none rfl _ _ _, rfl, .inr hw'⟩
end Go.Proofs.Ytknmlfolbapmpaa
