import Derived.Test.YtknmlfolbapmpaaSl
import Derived.RangeFuncNested
import Derived.Test.YtknmlfolbapmpaaProg
namespace Go.Proofs.Ytknmlfolbapmpaa
open Go Go.RowKit

/-- The mark of a loop among an activation's deferred calls. -/
abbrev dmk (d : Nat) : Deferred := { target := .collected d, args := #[] }
/-- The blocks of marks. -/
def Marks : List Nat → SP
  | [] => 1
  | d :: ds => pts d (.deferred (some [])) * Marks ds
theorem Marks_cons (d : Nat) (ds : List Nat) : Marks (d :: ds) = pts d (.deferred (some [])) * Marks ds := rfl

theorem St.putObj {b : Nat} {o o' : Obj} {R : SP} {F : Fr} {w : World} (h : St (pts b o * R) F w) : St (pts b o' * R) F (w.putObj b o') := by
  refine h.turn (grownBy_putObj' _ _ _) ?_
  exact World.putObj_heap_same (Array.getElem?_eq_some_iff.1 h.at).1

/-- An activation of which all deferred calls are marks is left. -/
theorem leaves_marks {P : Program} {fn : Func} {tmps : Array Value} {R : Ending → World → Prop} {Q : SP} {F : Fr} (hr : ∀ w', St Q F w' → ∃ v, (results fn tmps).run P w' = .ok v w' ∧ R (.returned v) w') :
    ∀ (ds : List Nat) (w : World), St (Marks ds * Q) F w → LeavesInM Fence.wide 0 P fn tmps R (ds.map dmk) .returning w := by
  intro ds
  induction ds with
  | nil =>
    intro w h
    exact hr w h.drop2
  | cons d ds ih =>
    intro w h
    have h' : St (pts d (.deferred (some [])) * (Marks ds * Q)) F w := h.to (SP.mul_assoc _ _ _)
    refine ⟨by simp, .inl ⟨d, _, rfl, run_takeDeferred h'.at, ih _ ?_⟩⟩
    exact h'.putObj.drop2
/-- A function that holds loops over iterators: from its body. -/
theorem calls_of_marks {P : Program} {f : FuncId} {fn : Func} {c : Code} {args : Array Value} {w : World} {R : Ending → World → Prop}
    (hf : P.funcs[f]? = some fn) (hb : fn.body = some c)
    (h : c.wp P (bodyPostM Fence.wide 0 P fn R) { tmps := args ++ Array.replicate (fn.ntmps - args.size) undef, defers := List.map dmk [] } w) : Calls P f args w R :=
  (callsIn_wide (n := 0)).1 (callsIn_of_wp_marks hf hb trivial (wpIn_wide.2 h) rfl)

/-- A call of the yield of loop l: on Qt it goes on, on Qf it doesn't. -/
def YT (l : Nat) (args : Array Value) (Pre Qt Qf : SP) : Prop :=
  ∀ (m : Nat) F w, St Pre F w → YieldAt Fence.wide m Try.prog l args w fun e w' => (e = .returned (.bool true) ∧ St Qt F w') ∨ (e = .returned (.bool false) ∧ St Qf F w')
theorem YT.use {l : Nat} {args : Array Value} {Pre Qt Qf X : SP} (hY : YT l args Pre Qt Qf) {F : Fr} {w : World} (h : St (Pre * X) F w) (m : Nat) :
    YieldAt Fence.wide m Try.prog l args w fun e w' => (e = .returned (.bool true) ∧ St (Qt * X) F w') ∨ (e = .returned (.bool false) ∧ St Qf F w') := by
  obtain ⟨r, hr, d, hs⟩ := h.part
  obtain ⟨f, t, a, b, hy, hR⟩ := hY m _ _ hs
  refine ⟨f, t, a, b, hy, hR.mono ?_⟩
  rintro e w' (⟨rfl, hq⟩ | ⟨rfl, hq⟩)
  · exact .inl ⟨rfl, hq.join hr d⟩
  · exact .inr ⟨rfl, (hq.join hr d).drop⟩
/-- What a function that is ranged over does: from 'start', at each i of D it yields arg i on A i, and goes on on B i; at its end there is 'fin'. -/
def ItC {ι : Type} (gf : Nat) (lb : Array Value) (start fin : SP) (D : ι → Prop) (arg : ι → Array Value) (A B : ι → SP) : Prop :=
  ∀ l R Rx, (∀ i, D i → YT l (arg i) (A i * R) (B i * R) Rx) → ∀ F w, St (start * R) F w →
    Calls Try.prog gf (#[.func (.yield l) #[] #[]] ++ lb) w fun e w' => e = .returned (.tuple #[]) ∧ (St (fin * R) F w' ∨ St Rx F w')
/-- How a round may be left. -/
def RPost (F : Fr) (B : SP) (Ix : Code → SP) : Exit → Act → World → Prop
  | .normal, _, w => St B F w
  | .ret, _, w => St (Ix .ret) F w
  | .exit id, _, w => St (Ix (.exit id)) F w
  | .goto t, _, w => St (Ix (.goto t)) F w
  | .panic _, _, _ => False
  | .outgrown, _, _ => False

theorem roundIn_wide {m : Nat} {l : Nat} {f : FuncId} {tmps : Array Value} {assign body : Code} {w : World} {R : Ending → World → Prop} {P : Program} (h : RoundIn Fence.wide 0 P l f tmps assign body w R) : RoundIn Fence.wide m P l f tmps assign body w R :=
  ⟨h.1, fun c cs _ => h.2 c cs (room_wide _)⟩

/-- **A LOOP OVER AN ITERATOR.** -/
theorem rangeFunc_sl {ι : Type} {g : Operand} {ps : Array Tmp} {assign body : Code} {Q : Exit → Act → World → Prop} {tmps : Array Value} (ds : List Nat) {w : World} {gf : Nat} {lb : Array Value} {F : Fr} {start fin : SP}
    {D : ι → Prop} {arg : ι → Array Value} {A B : ι → SP}
    (it : ItC gf lb start fin D arg A B) (hg : Act.eval { tmps, defers := ds.map dmk } g = .func (.func gf) #[] lb) (eg : ∀ args w, (callFunc gf args).run Try.prog w = .ok (.enter gf args) w)
    (hps : ∀ i, D i → (arg i).size = ps.size)
    (Ix : Code → SP) (act : ι → Act) (hs : St (start * Marks ds) F w)
    (hassign : ∀ l i W (K : Act → World → Prop), D i → K (act i) W → assign.wpIn (Fence.wide.inRound l) 0 Try.prog (Exit.then K (fun _ _ _ => False)) { tmps := (ps.zip (arg i)).foldl (fun t (p, v) => t.setIfInBounds p v) tmps, defers := [] } W)
    (hbody : ∀ l i F' W, D i → (∃ r, F'.hp l = some (.loop r)) → St (A i) F' W → body.wpIn (Fence.wide.inRound l) 0 Try.prog (RPost F' (B i) Ix) (act i) W)
    (hdone : ∀ d W, St (fin * Marks (d :: ds)) F W → Q .normal { tmps, defers := (d :: ds).map dmk } W)
    (hstop : ∀ c d W, St (Ix c * Marks (d :: ds)) F W → c.wp Try.prog Q { tmps, defers := (d :: ds).map dmk } W) :
    (Code.rangeFunc g ps assign body).wp Try.prog Q { tmps, defers := ds.map dmk } w := by
  refine (wpIn_wide (n := 0)).1 (wpIn_rangeFunc ?_)
  intro fn hfn
  rw [Fence.wide_round]
  obtain ⟨rec, hrec⟩ : ∃ rec : LoopState → Option Code → Loop, rec = fun st pe => { state := st, pending := pe, fn, tmps := tmps, params := ps, assign, body, defers := w.heap.size } := ⟨_, rfl⟩
  obtain ⟨W1, hW1⟩ : ∃ W1, (w.alloc (.deferred (some []))).alloc (.loop (rec .ready none)) = W1 := ⟨_, rfl⟩
  have h1 : St (pts (w.heap.size + 1) (.loop (rec .ready none)) * (pts w.heap.size (.deferred (some [])) * (start * Marks ds))) F W1 := by
    rw [← hW1]
    have := (hs.alloc (.deferred (some []))).alloc (.loop (rec .ready none))
    rwa [World.size_alloc] at this
  have h2 : St ((start * pts (w.heap.size + 1) (.loop (rec .ready none))) * Marks (w.heap.size :: ds)) F W1 := h1.to (by rw [Marks_cons]; simp only [SP.mul_assoc, SP.mul_left_comm, SP.mul_comm])
  obtain ⟨r, hr, hd, h3⟩ := h2.part
  refine ⟨w.heap.size + 1, [dmk w.heap.size], W1, { target := .fn (.func gf) lb, args := #[.func (.yield (w.heap.size + 1)) #[] #[]] }, W1, gf, #[.func (.yield (w.heap.size + 1)) #[] #[]] ++ lb, W1, ?_, ?_, ?_, ?_, ?_, ?_⟩
  · rw [← hW1, hrec]; exact run_enterLoop_outer _ _ _ _ _
  · simp only [resolve, hg]
    simp [go_sem]
  · intro f' _; trivial
  · simp [invoke, go_sem, eg]
  · intro h; simp [Fence.wide] at h
  · refine callsIn_wide.2 ((it (w.heap.size + 1) (pts (w.heap.size + 1) (.loop (rec .ready none))) (SP.ex fun c => Ix c * pts (w.heap.size + 1) (.loop (rec .done (some c)))) ?_ _ _ h3).mono ?_)
    · intro i hi m F' W hW
      have hl : St (pts (w.heap.size + 1) (.loop (rec .ready none)) * A i) F' W := hW.to (SP.mul_comm _ _)
      have hy := run_yield (P := Try.prog) (args := arg i) hl.at (by rw [hrec]; exact hps i hi)
      rw [hrec] at hy
      refine ⟨fn, _, assign, body, hy, roundIn_wide (roundIn_of_wpIn hfn (hassign _ i W _ hi ⟨_, run_beginRound hl.at (by rw [hrec]), ?_⟩))⟩
      have hb : St (A i * pts (w.heap.size + 1) (.loop { rec .ready none with state := .busy })) F' (W.putObj (w.heap.size + 1) (.loop { rec .ready none with state := .busy })) := hl.putObj.to (SP.mul_comm _ _)
      obtain ⟨r2, hr2, hd2, hb2⟩ := hb.part
      have hl2 : (F'.plus r2).hp (w.heap.size + 1) = some (.loop { rec .ready none with state := .busy }) := by
        refine Hp.un_right hd2 ?_
        rw [hr2]
        exact Hp.one_self _ _
      refine wpIn_mono (hbody (w.heap.size + 1) i _ _ hi ⟨_, hl2⟩ hb2) ?_
      have fin : ∀ (jump : Option Code) (X : SP) (W3 : World), St X (F'.plus r2) W3 →
          (Instr.endRound (w.heap.size + 1) jump).run Try.prog W3 = .ok (.bool jump.isNone) (W3.putObj (w.heap.size + 1) (.loop (rec (if jump.isNone then .ready else .done) jump))) ∧
          St (X * pts (w.heap.size + 1) (.loop (rec (if jump.isNone then .ready else .done) jump))) F' (W3.putObj (w.heap.size + 1) (.loop (rec (if jump.isNone then .ready else .done) jump))) := by
        intro jump X W3 h
        have h4 : St (pts (w.heap.size + 1) (.loop { rec .ready none with state := .busy }) * X) F' W3 := (h.join hr2 hd2).to (SP.mul_comm _ _)
        have h5 := run_endRound (P := Try.prog) jump h4.at
        rw [hrec] at h5 ⊢
        refine ⟨h5, ?_⟩
        rw [hrec] at h4
        exact h4.putObj.to (SP.mul_comm _ _)
      intro e a3 W3 hp
      cases e with
      | normal => obtain ⟨ha, hb⟩ := fin none _ _ hp; exact ⟨_, _, ha, .inl ⟨rfl, hb⟩⟩
      | ret => obtain ⟨ha, hb⟩ := fin (some .ret) _ _ hp; exact ⟨_, _, ha, .inr ⟨rfl, St.ex.2 ⟨_, hb⟩⟩⟩
      | exit id => obtain ⟨ha, hb⟩ := fin (some (.exit id)) _ _ hp; exact ⟨_, _, ha, .inr ⟨rfl, St.ex.2 ⟨_, hb⟩⟩⟩
      | goto t => obtain ⟨ha, hb⟩ := fin (some (.goto t)) _ _ hp; exact ⟨_, _, ha, .inr ⟨rfl, St.ex.2 ⟨_, hb⟩⟩⟩
      | panic ch => exact hp.elim
      | outgrown => exact hp.elim
    · rintro e W2 ⟨rfl, hq⟩
      rcases hq with hq | hq
      · have h4 : St (pts (w.heap.size + 1) (.loop (rec .ready none)) * (fin * Marks (w.heap.size :: ds))) F W2 := (hq.join hr hd).to (by simp only [SP.mul_assoc, SP.mul_left_comm, SP.mul_comm])
        have h5 := run_endLoop (P := Try.prog) h4.at (by rw [hrec]; simp)
        rw [hrec] at h5
        exact ⟨none, _, h5, hdone _ _ (h4.putObj.drop2)⟩
      · obtain ⟨c, hq⟩ := St.ex.1 hq
        have h4 : St (pts (w.heap.size + 1) (.loop (rec .done (some c))) * (Ix c * Marks (w.heap.size :: ds))) F W2 := (hq.join hr hd).to (by simp only [SP.mul_assoc, SP.mul_left_comm, SP.mul_comm])
        have h5 := run_endLoop (P := Try.prog) h4.at (by rw [hrec]; simp)
        rw [hrec] at h5
        exact ⟨some c, _, h5, wpIn_wide.2 (hstop c _ _ (h4.putObj.drop2))⟩
end Go.Proofs.Ytknmlfolbapmpaa
