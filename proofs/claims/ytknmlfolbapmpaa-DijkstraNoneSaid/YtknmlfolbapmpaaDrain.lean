import Derived.Test.YtknmlfolbapmpaaPick
namespace Go.Proofs.Ytknmlfolbapmpaa
open Go Go.RowKit
attribute [local go_sem] Oper.semAt_some

theorem results_box {fn : Func} {p : Tmp} (h : fn.results = #[.cell p 4]) (tmps : Array Value) (w : World) (g : Nat) (x : Bool) (hp : tmps.getD p undef = .pointer (some ⟨g, 0, none⟩))
    (hc : w.cell? ⟨g, 0, none⟩ = some (.bool x)) : (results fn tmps).run Try.prog w = .ok (.bool x) w := by
  have hp' : tmps[p]?.getD undef = .pointer (some ⟨g, 0, none⟩) := by simpa using hp
  simp only [results, h]
  simp [hp', asAddr, go_sem, Result.andThen, hc]
/-- Is none grey? -/
def drainedB (N : Nat) (M : Mk) : Bool := (List.range N).all fun r => !M.md r || M.sc r
theorem drainedB_true {N : Nat} {M : Mk} (h : ∀ r, r < N → M.md r = true → M.sc r = true) : drainedB N M = true := by
  unfold drainedB
  rw [List.all_eq_true]
  intro r hr
  have := h r (by simpa using hr)
  cases hm : M.md r
  · rfl
  · simp [this hm]
theorem drainedB_false {N : Nat} {M : Mk} {r : Nat} (hr : r < N) (h1 : M.md r = true) (h2 : M.sc r = false) : drainedB N M = false := by
  unfold drainedB
  rw [List.all_eq_false]
  exact ⟨r, by simpa using hr, by simp [h1, h2]⟩
theorem drainedB_of {N : Nat} {M : Mk} (h : drainedB N M = true) {r : Nat} (hr : r < N) (h1 : M.md r = true) : M.sc r = true := by
  cases h2 : M.sc r
  · rw [drainedB_false hr h1 h2] at h; cases h
  · rfl
/-- Between two rounds. -/
def drI (i : MkId) (M : Mk) (rb bb j : Nat) (M' : Mk) : SP := SP.wh (M' = M ∧ ∀ r, r < j → M.md r = true → M.sc r = true) (boxP rb (.bool false) 4 * boxP bb (.pointer (some ⟨i.m, 0, none⟩)) 33)
def drX (i : MkId) (M : Mk) (rb : Nat) (c : Code) : SP := SP.wh (c = .ret ∧ drainedB i.N M = false) (MarkP i M * boxP rb (.bool false) 4)
theorem St.drI {i : MkId} {M M' : Mk} {rb bb j : Nat} {R : SP} {F : Fr} {w : World} : St (drI i M rb bb j M' * R) F w ↔ (M' = M ∧ ∀ r, r < j → M.md r = true → M.sc r = true) ∧ St (boxP rb (.bool false) 4 * (boxP bb (.pointer (some ⟨i.m, 0, none⟩)) 33 * R)) F w := by
  unfold Go.Proofs.Ytknmlfolbapmpaa.drI
  rw [St.whm, SP.mul_assoc]
set_option maxRecDepth 100000 in
/-- Drained. -/
theorem drained_tr (i : MkId) (M : Mk) : Tr0 Try.prog 60 #[.pointer (some ⟨i.m, 0, none⟩)] (MarkP i M) (.bool (drainedB i.N M)) (MarkP i M) := by
  intro F w h
  have h0 := (h.mul1.boxNew (.pointer (some ⟨i.m, 0, none⟩)) 33).boxNew (.bool false) 4
  rw [World.size_alloc] at h0
  have H0 := Lib.hid h0
  clear h h0
  refine calls_of_marks Try.func60 rfl ?_
  simp only [Try.ntmps60, List.size_toArray, List.length_cons, List.length_nil, Nat.reduceAdd, Nat.reduceSub, Array.replicate_succ, Array.replicate_zero, List.push_toArray, List.append_toArray, List.nil_append, List.cons_append]
  go_wp2_with fail
  generalize (w.alloc (.cells #[.pointer (some ⟨i.m, 0, none⟩)] 33)).alloc (.cells #[.bool false] 4) = w0 at *
  generalize hrb : w.heap.size + 1 = rb at *
  generalize w.heap.size = bb at *
  clear hrb
  refine ((mkAll_tr i.m).use (H0.out.mul1.to (SP.mul_comm _ _))).mono ?_
  rintro e w1 ⟨k, rfl, h1⟩
  have h2 : St (boxP k (.pointer (some ⟨i.m, 0, none⟩)) 33 * (MarkP i M * drI i M rb bb 0 M)) F w1 := by
    have h3 : St (drI i M rb bb 0 M * (boxP k (.pointer (some ⟨i.m, 0, none⟩)) 33 * MarkP i M)) F w1 :=
      St.drI.2 ⟨⟨rfl, fun _ h => absurd h (Nat.not_lt_zero _)⟩, h1.to (by simp only [SP.mul_one]; simp only [SP.mul_assoc, SP.mul_left_comm, SP.mul_comm])⟩
    exact h3.to (by simp only [SP.mul_assoc, SP.mul_left_comm, SP.mul_comm])
  have H2 := Lib.hid h2
  clear h1 h2 H0
  go_wp2_with fail
  have wF : ∀ f, Fence.wide.fn f := fun _ => trivial
  have wD : Fence.wide.depth = none := rfl
  refine rangeFunc_sl [] (mkAll1_it i k (drI i M rb bb) M ?skip) rfl (enters_of Try.func115 (by kernel_rfl) rfl) (fun _ _ => rfl) (drX i M rb) ?act H2.out.mul1 ?assign ?body ?done ?stop
  case skip =>
    rintro j M' x hj ⟨⟨rfl, hr⟩, hx⟩
    refine ⟨⟨rfl, fun r hr1 hr2 => ?_⟩, hx⟩
    by_cases e : r = j
    · subst e; rw [hj] at hr2; cases hr2
    · exact hr r (by omega) hr2
  case assign =>
    intro l2 x W K hx hKK
    have HKK := Lib.hid hKK
    clear hKK
    gi_wp2
    exact HKK.out
  case body =>
    rintro l2 ⟨j, M'⟩ F' W ⟨hj, hy⟩ _ h7
    have h8 := St.drI.1 (h7.to (SP.mul_comm _ _))
    obtain ⟨⟨e, hr⟩, h9⟩ := h8
    dsimp only at e hj hy
    subst e
    have c0 := (h9.to (SP.mul_left_comm _ _ _)).box
    have hc := (scanned_tr i M' j hj).use (h9.to (SP.l3 _ _ _))
    have Hr := Lib.hid hr
    have Hy := Lib.hid hy
    have Hc := Lib.hid hc
    clear h7 h9 hr hy hc
    cases hsc : M'.sc j
    · have Hsc := Lib.hid hsc
      rw [hsc] at Hc
      clear hsc
      gi_wp2_with fail
      refine (callsIn_round Hc.out).mono ?_
      rintro e w3 ⟨rfl, h10⟩
      clear c0
      have h11 : St (boxP rb (.bool false) 4 * (MarkP i M' * boxP bb (.pointer (some ⟨i.m, 0, none⟩)) 33)) F' w3 := h10.to (SP.mul_left_comm _ _ _)
      have c1 := h11.box
      have c2 := h11.boxZ
      have H12 := Lib.hid (h11.boxSet (u := .bool false))
      clear h10 h11
      gi_wp2_with fail
      exact St.wh.2 ⟨⟨rfl, drainedB_false hj Hy.out Hsc.out⟩, (H12.out.to (Q := MarkP i M' * boxP rb (.bool false) 4 * boxP bb (.pointer (some ⟨i.m, 0, none⟩)) 33) (by simp only [SP.mul_assoc, SP.mul_left_comm, SP.mul_comm])).drop⟩
    · have Hsc := Lib.hid hsc
      rw [hsc] at Hc
      clear hsc
      gi_wp2_with fail
      refine (callsIn_round Hc.out).mono ?_
      rintro e w3 ⟨rfl, h10⟩
      have h11 : St (SP.ex fun M'' => MarkP i M'' * drI i M' rb bb (j + 1) M'') F' w3 := by
        refine St.ex.2 ⟨M', ((St.drI (R := MarkP i M')).2 ⟨⟨rfl, fun r hr1 hr2 => ?_⟩, h10.to (SP.l3 _ _ _).symm⟩).to (SP.mul_comm _ _)⟩
        by_cases e : r = j
        · rw [e]; exact Hsc.out
        · exact Hr.out r (by omega) hr2
      have H11 := Lib.hid h11
      clear h10 h11
      gi_wp2_with fail
      exact H11.out
  case done =>
    intro d W h5
    have h6 : St ((SP.ex fun M' => MarkP i M' * drI i M rb bb i.N M') * Marks [d]) F W := h5
    obtain ⟨M', h7⟩ := St.exm.1 h6
    obtain ⟨⟨e, hr⟩, h8⟩ := St.drI.1 (h7.to (Q := drI i M rb bb i.N M' * (MarkP i M' * Marks [d])) (by simp only [SP.mul_assoc, SP.mul_left_comm]))
    subst e
    have hd := drainedB_true hr
    have c1 := h8.box
    have c2 := h8.boxZ
    have H9 := Lib.hid (h8.boxSet (u := .bool true))
    have Hd := Lib.hid hd
    clear h5 h6 h7 h8 hr hd H2
    go_wp2_with fail
    refine leaves_marks (F := F) (Q := MarkP i M' * boxP rb (.bool true) 4) ?_ [d] _ ?_
    · intro w' hw'
      refine ⟨_, results_box rfl _ _ rb true rfl (hw'.to (SP.mul_comm _ _)).box, ?_, hw'.drop⟩
      rw [Hd.out]
    · exact (H9.out.to (Q := Marks [d] * (MarkP i M' * boxP rb (.bool true) 4) * boxP bb (.pointer (some ⟨i.m, 0, none⟩)) 33) (by simp only [SP.mul_assoc, SP.mul_left_comm, SP.mul_comm])).drop
  case stop =>
    intro c d W h5
    obtain ⟨⟨rfl, hd⟩, h6⟩ := St.whm.1 h5
    refine wp_ret ?_
    refine leaves_marks (F := F) (Q := MarkP i M * boxP rb (.bool false) 4) ?_ [d] W (h6.to (SP.mul_comm _ _))
    intro w' hw'
    refine ⟨_, results_box rfl _ _ rb false rfl (hw'.to (SP.mul_comm _ _)).box, ?_, hw'.drop⟩
    rw [hd]
end Go.Proofs.Ytknmlfolbapmpaa
