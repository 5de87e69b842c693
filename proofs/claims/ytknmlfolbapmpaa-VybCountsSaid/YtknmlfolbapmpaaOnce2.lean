import Derived.Test.YtknmlfolbapmpaaOnce
namespace Go.Proofs.Ytknmlfolbapmpaa
open Go Go.RowKit

/-- Behind the slow road: the words are laid, the Once is done. -/
def laidW (w : World) (b : Nat) (n : Int) : World :=
  (((((w.setCell ⟨b, 2, none⟩ (.int .i32 1)).setCell ⟨b, 4, none⟩ (.slice (some ⟨w.heap.size, 0, none⟩) (nwords n) (nwords n))).alloc (.cells (madeCells #[.int .u64 0] (nwords n)) 151)).drew.drew.setCell ⟨b, 1, none⟩ (.int .u32 1)).setCell ⟨b, 2, none⟩ (.int .i32 0))

set_option maxRecDepth 100000 in
set_option maxHeartbeats 1600000 in
theorem slow_any (pl b : Nat) (Tp : TypeId) (n : Int) (L : Value) (hn0 : 0 ≤ n) (hn : n ≤ 100000) (hpb : pl ≠ b) (w : World)
    (hp : w.heap[pl]? = some (.cells #[.pointer (some ⟨b, 0, none⟩)] Tp (0, 0))) (hb : w.heap[b]? = some (setObj n 0 0 L)) :
    Calls Try.prog 125 #[.pointer (some ⟨b, 1, none⟩), .func (.func 121) #[] #[.pointer (some ⟨pl, 0, none⟩)]] w fun e w' => e = .returned (.tuple #[]) ∧ w' = laidW w b n := by
  have c1 : w.cell? ⟨b, 1, none⟩ = some (.int .u32 0) := by rw [cell_of hb]; rfl
  have c2 : w.cell? ⟨b, 2, none⟩ = some (.int .i32 0) := by rw [cell_of hb]; rfl
  have f1 : w.frozen? ⟨b, 1, none⟩ = false := frozen_of hb
  have f2 : w.frozen? ⟨b, 2, none⟩ = false := frozen_of hb
  have hb1 : (w.setCell ⟨b, 2, none⟩ (.int .i32 1)).heap[b]? = some (setObj n 0 1 L) := heap_setCell_at hb
  have hp1 : (w.setCell ⟨b, 2, none⟩ (.int .i32 1)).heap[pl]? = some (.cells #[.pointer (some ⟨b, 0, none⟩)] Tp (0, 0)) := (Below.heap_setCell w ⟨b, 2, none⟩ _ pl hpb).trans hp
  have hl := run_call_load (P := Try.prog) Try.func126 (by kernel_rfl) (by kernel_rfl) (by kernel_rfl) .u32 (by kernel_rfl) (w := w.setCell ⟨b, 2, none⟩ (.int .i32 1)) (a := ⟨b, 1, none⟩) (x := 0) (by rw [cell_of hb1]; rfl)
  have lb : b < w.heap.size := (Array.getElem?_eq_some_iff.1 hb).1
  have hnot : ∀ (x : Bool) (w : World), (Op.unary .not (.bool x)).run Try.prog w = .ok (.bool (!x)) w := fun _ _ => rfl
  go_enter_defers Try.func125, Try.ntmps125
  go_wp2_with (go_at_call 127; refine (lock_free ⟨b, 2, none⟩ _ c2 f2).mono ?_; rintro e w' ⟨rfl, rfl⟩)
  go_wp2_with (first | (go_at_call 121; refine (lay_words pl b Tp n 0 1 L hn0 hn _ hp1 hb1).mono ?_; rintro e w' ⟨rfl, rfl⟩) | (go_at_call 124; go_in))
  have hb2 : ((((w.setCell ⟨b, 2, none⟩ (.int .i32 1)).setCell ⟨b, 4, none⟩ (.slice (some ⟨w.heap.size, 0, none⟩) (nwords n) (nwords n))).alloc (.cells (madeCells #[.int .u64 0] (nwords n)) 151)).drew).heap[b]? = some (setObj n 0 1 (.slice (some ⟨w.heap.size, 0, none⟩) (nwords n) (nwords n))) :=
    (Below.heap_alloc _ _ _ (by simp [World.setCell]; exact lb)).trans (heap_setCell_at hb1)
  have hb3 : (((((w.setCell ⟨b, 2, none⟩ (.int .i32 1)).setCell ⟨b, 4, none⟩ (.slice (some ⟨w.heap.size, 0, none⟩) (nwords n) (nwords n))).alloc (.cells (madeCells #[.int .u64 0] (nwords n)) 151)).drew.drew.setCell ⟨b, 1, none⟩ (.int .u32 1))).heap[b]? = some (setObj n 1 1 (.slice (some ⟨w.heap.size, 0, none⟩) (nwords n) (nwords n))) :=
    heap_setCell_at (w := _) (c := #[.int .i64 n, .int .u32 0, .int .i32 1, .int .u32 0, .slice (some ⟨w.heap.size, 0, none⟩) (nwords n) (nwords n)]) hb2
  refine leaves_cons (f := 129) (args := #[.pointer (some ⟨b, 1, none⟩), .bool true]) (by simp) (by simp [go_sem]) ?_
  refine (store_deferred ⟨b, 1, none⟩ (.int .u32 0) .returning _ (by rw [cell_of hb2]; rfl) (frozen_of hb2)).mono ?_
  rintro e u' w'' ⟨rfl, rfl, rfl⟩
  refine leaves_cons (f := 128) (args := #[.pointer (some ⟨b, 2, none⟩)]) (by simp [settle]) (by simp [go_sem]) ?_
  refine (unlock_deferred ⟨b, 2, none⟩ _ _ (by rw [cell_of hb3]; rfl) (frozen_of hb3)).mono ?_
  rintro e u' w'' ⟨rfl, rfl, rfl⟩
  simp [Leaves, settle, results, Try.results125, laidW]

set_option maxRecDepth 100000 in
/-- 'Once.Do', not yet done. -/
theorem do_first (pl b : Nat) (Tp : TypeId) (n : Int) (L : Value) (hn0 : 0 ≤ n) (hn : n ≤ 100000) (hpb : pl ≠ b) (w : World)
    (hp : w.heap[pl]? = some (.cells #[.pointer (some ⟨b, 0, none⟩)] Tp (0, 0))) (hb : w.heap[b]? = some (setObj n 0 0 L)) :
    Calls Try.prog 120 #[.pointer (some ⟨b, 1, none⟩), .func (.func 121) #[] #[.pointer (some ⟨pl, 0, none⟩)]] w fun e w' => e = .returned (.tuple #[]) ∧ w' = laidW w b n := by
  have hl := run_call_load (P := Try.prog) Try.func126 (by kernel_rfl) (by kernel_rfl) (by kernel_rfl) .u32 (by kernel_rfl) (w := w) (a := ⟨b, 1, none⟩) (x := 0) (by rw [cell_of hb]; rfl)
  have hnot : ∀ (x : Bool) (w : World), (Op.unary .not (.bool x)).run Try.prog w = .ok (.bool (!x)) w := fun _ _ => rfl
  go_enter Try.func120, Try.ntmps120
  go_wp2_with (first | (go_at_call 125; refine (slow_any pl b Tp n L hn0 hn hpb _ hp hb).mono ?_; rintro e w' ⟨rfl, rfl⟩) | (go_at_call 124; go_in))
  go_end0
  exact ⟨rfl, rfl⟩

set_option maxRecDepth 100000 in
/-- 'Once.Do', done already. -/
theorem do_done (b : Nat) (n st : Int) (L fv : Value) (w : World) (hb : w.heap[b]? = some (setObj n 1 st L)) :
    Calls Try.prog 120 #[.pointer (some ⟨b, 1, none⟩), fv] w fun e w' => e = .returned (.tuple #[]) ∧ w' = w := by
  have hl := run_call_load (P := Try.prog) Try.func126 (by kernel_rfl) (by kernel_rfl) (by kernel_rfl) .u32 (by kernel_rfl) (w := w) (a := ⟨b, 1, none⟩) (x := 1) (by rw [cell_of hb]; rfl)
  have hnot : ∀ (x : Bool) (w : World), (Op.unary .not (.bool x)).run Try.prog w = .ok (.bool (!x)) w := fun _ _ => rfl
  go_enter Try.func120, Try.ntmps120
  go_wp2_with (go_at_call 124; go_in)
  go_end0
  exact ⟨rfl, rfl⟩

/-- The laid words of a set. -/
def zeroWords (n : Int) : Obj := .cells (madeCells #[.int .u64 0] (nwords n)) 151 (0, 0)

theorem St.laidW {b : Nat} {n : Int} {L : Value} {R : SP} {F : Fr} {w : World} (h : St (pts b (setObj n 0 0 L) * R) F w) :
    St (pts b (setObj n 1 0 (.slice (some ⟨w.heap.size, 0, none⟩) (nwords n) (nwords n))) * (pts w.heap.size (zeroWords n) * R)) F (laidW w b n) := by
  have h1 : St (pts b (setObj n 0 1 L) * R) F _ := h.set (off := 2) (v := .int .i32 1)
  have h2 : St (pts b (setObj n 0 1 (.slice (some ⟨w.heap.size, 0, none⟩) (nwords n) (nwords n))) * R) F _ := h1.set (off := 4) (v := .slice (some ⟨w.heap.size, 0, none⟩) (nwords n) (nwords n))
  have h3 := h2.alloc (zeroWords n)
  have hs : ((w.setCell ⟨b, 2, none⟩ (.int .i32 1)).setCell ⟨b, 4, none⟩ (.slice (some ⟨w.heap.size, 0, none⟩) (nwords n) (nwords n))).heap.size = w.heap.size := by simp [World.setCell]
  rw [hs, SP.mul_left_comm] at h3
  have h4 : St (pts b (setObj n 1 1 (.slice (some ⟨w.heap.size, 0, none⟩) (nwords n) (nwords n))) * (pts w.heap.size (zeroWords n) * R)) F _ := h3.drew.drew.set (off := 1) (v := .int .u32 1)
  exact h4.set (off := 2) (v := .int .i32 0)

set_option maxRecDepth 100000 in
/-- 'words', not yet laid. -/
theorem words_first (b : Nat) (n : Int) (L : Value) (hn0 : 0 ≤ n) (hn : n ≤ 100000) :
    Tr Try.prog 106 #[.pointer (some ⟨b, 0, none⟩)] (pts b (setObj n 0 0 L)) (fun lb : Nat => .slice (some ⟨lb, 0, none⟩) (nwords n) (nwords n))
      (fun lb => pts b (setObj n 1 0 (.slice (some ⟨lb, 0, none⟩) (nwords n) (nwords n))) * pts lb (zeroWords n)) := by
  intro F w h
  rw [← SP.mul_one (pts b _)] at h
  have h1 := h.alloc (.cells #[.pointer (some ⟨b, 0, none⟩)] 89)
  have hp1 := h1.at
  have hne := h1.ne
  rw [SP.mul_left_comm] at h1
  have hb1 := h1.at
  have h2 := h1.laidW
  have hb2 := h2.at
  have c4 : (laidW (w.alloc (.cells #[.pointer (some ⟨b, 0, none⟩)] 89)) b n).cell? ⟨b, 4, none⟩ = some (.slice (some ⟨(w.alloc (.cells #[.pointer (some ⟨b, 0, none⟩)] 89)).heap.size, 0, none⟩) (nwords n) (nwords n)) := by rw [cell_of hb2]; rfl
  have cp : (laidW (w.alloc (.cells #[.pointer (some ⟨b, 0, none⟩)] 89)) b n).cell? ⟨w.heap.size, 0, none⟩ = some (.pointer (some ⟨b, 0, none⟩)) := by
    have h3 := h2
    rw [SP.mul_left_comm (pts _ (zeroWords n)), SP.mul_left_comm] at h3
    rw [cell_of h3.at]; rfl
  have hmf : ∀ (fn : Fn) (first cap : Array Value) (w : World), (Instr.makeFunc fn first cap).run Try.prog w = .ok (.func fn first cap) w := fun _ _ _ _ => rfl
  go_enter Try.func106, Try.ntmps106
  go_wp2_with fail
  refine (do_first w.heap.size b 89 n L hn0 hn hne _ hp1 hb1).mono ?_
  rintro e w' ⟨rfl, rfl⟩
  generalize (w.alloc (.cells #[.pointer (some ⟨b, 0, none⟩)] 89)).heap.size = lb at *
  generalize laidW (w.alloc (.cells #[.pointer (some ⟨b, 0, none⟩)] 89)) b n = w2 at *
  go_wp2
  go_ret
  refine ⟨lb, rfl, ?_⟩
  rw [← SP.mul_assoc] at h2
  exact h2.drop

set_option maxRecDepth 100000 in
/-- 'words', laid. -/
theorem words_again (b lb : Nat) (n st : Int) :
    Tr0 Try.prog 106 #[.pointer (some ⟨b, 0, none⟩)] (pts b (setObj n 1 st (.slice (some ⟨lb, 0, none⟩) (nwords n) (nwords n)))) (.slice (some ⟨lb, 0, none⟩) (nwords n) (nwords n))
      (pts b (setObj n 1 st (.slice (some ⟨lb, 0, none⟩) (nwords n) (nwords n)))) := by
  intro F w h
  rw [← SP.mul_one (pts b _)] at h
  have h1 := h.alloc (.cells #[.pointer (some ⟨b, 0, none⟩)] 89)
  have cp : (w.alloc (.cells #[.pointer (some ⟨b, 0, none⟩)] 89)).cell? ⟨w.heap.size, 0, none⟩ = some (.pointer (some ⟨b, 0, none⟩)) := by rw [cell_of h1.at]; rfl
  rw [SP.mul_left_comm] at h1
  have hb1 := h1.at
  have c4 : (w.alloc (.cells #[.pointer (some ⟨b, 0, none⟩)] 89)).cell? ⟨b, 4, none⟩ = some (.slice (some ⟨lb, 0, none⟩) (nwords n) (nwords n)) := by rw [cell_of hb1]; rfl
  have hmf : ∀ (fn : Fn) (first cap : Array Value) (w : World), (Instr.makeFunc fn first cap).run Try.prog w = .ok (.func fn first cap) w := fun _ _ _ _ => rfl
  go_enter Try.func106, Try.ntmps106
  go_wp2_with fail
  refine (do_done b n st _ _ _ hb1).mono ?_
  rintro e w' ⟨rfl, rfl⟩
  go_wp2
  go_ret
  exact ⟨rfl, h1.drop⟩
end Go.Proofs.Ytknmlfolbapmpaa
