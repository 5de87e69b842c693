import Derived.Test.YtknmlfolbapmpaaSl
import Derived.Test.YtknmlfolbapmpaaProg
import Derived.Laws.LoneSync
import Derived.RegionTactic
import Derived.RegionCalls
import Derived.ChangeAlike
import Derived.Lib.Hide
import Derived.Handy
import Derived.BigQuiet
import Derived.Deep.QuietTactic
import Derived.Deep.RegionWith
namespace Go.Proofs.Ytknmlfolbapmpaa
open Go Go.RowKit

theorem disable (w : World) : (callFunc 134 #[]).run Try.prog w = .ok (.value (.tuple #[])) w := run_call_mark0 Try.func134 (by kernel_rfl) (by kernel_rfl) (by kernel_rfl) .disable (by kernel_rfl) w
theorem enable (w : World) : (callFunc 136 #[]).run Try.prog w = .ok (.value (.tuple #[])) w := run_call_mark0 Try.func136 (by kernel_rfl) (by kernel_rfl) (by kernel_rfl) .enable (by kernel_rfl) w
theorem acquire (a : Addr) (w : World) : (callFunc 137 #[.pointer (some a)]).run Try.prog w = .ok (.value (.tuple #[])) w := run_call_marked Try.func137 (by kernel_rfl) (by kernel_rfl) (by kernel_rfl) .acquire (by kernel_rfl) a w
theorem releaseMerge (a : Addr) (w : World) : (callFunc 139 #[.pointer (some a)]).run Try.prog w = .ok (.value (.tuple #[])) w := run_call_marked Try.func139 (by kernel_rfl) (by kernel_rfl) (by kernel_rfl) .releaseMerge (by kernel_rfl) a w

theorem store_deferred (a : Addr) (x : Value) (u : FrameMode) (w : World) (hc : w.cell? a = some x) (hz : w.frozen? a = false) :
    CallsD Try.prog 129 #[.pointer (some a), .bool true] u w fun e u' w' => u' = u ∧ (e = .returned (.tuple #[]) ∧ w' = w.drew.setCell a (.int .u32 1)) := by
  have hc' : w.drew.cell? a = some x := by go_simp
  have hz' : w.drew.frozen? a = false := by go_simp
  have hst := run_call_store (P := Try.prog) Try.func132 (by kernel_rfl) (by kernel_rfl) (by kernel_rfl) (by kernel_rfl) (k := .u32) (y := 1) hc' hz'
  go_enter_d Try.func129, Try.ntmps129
  go_wp2
  go_region_calls
  all_goals (go_end0; exact ⟨rfl, rfl⟩)

set_option maxRecDepth 100000 in
theorem unlock_deferred (a : Addr) (u : FrameMode) (w : World) (hc : w.cell? a = some (.int .i32 1)) (hz : w.frozen? a = false) :
    CallsD Try.prog 128 #[.pointer (some a)] u w fun e u' w' => u' = u ∧ (e = .returned (.tuple #[]) ∧ w' = w.setCell a (.int .i32 0)) := by
  have hd := disable
  have he := enable
  have hr := releaseMerge
  have hadd := run_call_add (P := Try.prog) Try.func140 (by kernel_rfl) (by kernel_rfl) (by kernel_rfl) .i32 (by kernel_rfl) (y := -1) (s := 0) hc hz (by simp [go_sem]; rfl)
  have hcv := run_convert_to_unsafe (P := Try.prog) (src := 169) (dst := 173) Try.underlying169 Try.underlying173 (by kernel_rfl) hc
  go_enter_d Try.func128, Try.ntmps128
  go_wp2
  go_end0
  exact ⟨rfl, rfl⟩

set_option maxRecDepth 100000 in
theorem lock_free (a : Addr) (w : World) (hc : w.cell? a = some (.int .i32 0)) (hz : w.frozen? a = false) :
    Calls Try.prog 127 #[.pointer (some a)] w fun e w' => e = .returned (.tuple #[]) ∧ w' = w.setCell a (.int .i32 1) := by
  have hd := disable
  have he := enable
  have ha := acquire
  have hcas := run_call_cas_hit (P := Try.prog) Try.func135 (by kernel_rfl) (by kernel_rfl) (by kernel_rfl) .i32 (by kernel_rfl) (y := 1) hc hz
  have hc' : (w.setCell a (.int .i32 1)).cell? a = some (.int .i32 1) := World.cell?_setCell_same w a _ hc
  have hcv := run_convert_to_unsafe (P := Try.prog) (src := 169) (dst := 173) Try.underlying169 Try.underlying173 (by kernel_rfl) hc'
  go_enter Try.func127, Try.ntmps127
  go_wp2
  go_end0
  exact ⟨rfl, rfl⟩

/-- A set's struct. -/
def setObj (n d : Int) (st : Int) (L : Value) : Obj := .cells #[.int .i64 n, .int .u32 d, .int .i32 st, .int .u32 0, L] 138 (0, 0)

/-- How many words. -/
def nwords (n : Int) : Nat := ((n + 63) / 64).toNat


theorem info_word : (Try.prog.info? 151).map (fun i => (i.zero, i.size, i.bytes)) = some (some (.agg #[.int .u64 0]), 1, 8) := by kernel_rfl
/-- 'words$1': the words are laid. -/
theorem lay_words (pl b : Nat) (Tp : TypeId) (n d st : Int) (L : Value) (hn0 : 0 ≤ n) (hn : n ≤ 100000) (w : World)
    (hp : w.heap[pl]? = some (.cells #[.pointer (some ⟨b, 0, none⟩)] Tp (0, 0))) (hb : w.heap[b]? = some (setObj n d st L)) :
    Calls Try.prog 121 #[.pointer (some ⟨pl, 0, none⟩)] w fun e w' => e = .returned (.tuple #[]) ∧ w' = ((w.setCell ⟨b, 4, none⟩ (.slice (some ⟨w.heap.size, 0, none⟩) (nwords n) (nwords n))).alloc (.cells (madeCells #[.int .u64 0] (nwords n)) 151)).drew := by
  have c0 : w.cell? ⟨pl, 0, none⟩ = some (.pointer (some ⟨b, 0, none⟩)) := by rw [cell_of hp]; rfl
  have c1 : w.cell? ⟨b, 0, none⟩ = some (.int .i64 n) := by rw [cell_of hb]; rfl
  have c2 : w.cell? ⟨b, 4, none⟩ = some L := by rw [cell_of hb]; rfl
  have f2 : w.frozen? ⟨b, 4, none⟩ = false := frozen_of hb
  have lp : pl < w.heap.size := (Array.getElem?_eq_some_iff.1 hp).1
  have lb : b < w.heap.size := (Array.getElem?_eq_some_iff.1 hb).1
  have a0 : ∀ o, (w.alloc o).cell? ⟨pl, 0, none⟩ = some (.pointer (some ⟨b, 0, none⟩)) := fun o => by rw [World.cell?_alloc_past _ _ _ lp]; exact c0
  have a1 : ∀ o, (w.alloc o).cell? ⟨b, 0, none⟩ = some (.int .i64 n) := fun o => by rw [World.cell?_alloc_past _ _ _ lb]; exact c1
  have a2 : ∀ o, (w.alloc o).cell? ⟨b, 4, none⟩ = some L := fun o => by rw [World.cell?_alloc_past _ _ _ lb]; exact c2
  have a3 : ∀ o, (w.alloc o).frozen? ⟨b, 4, none⟩ = false := fun o => by rw [World.frozen?_alloc_past _ _ _ lb]; exact f2
  obtain ⟨i0, hi, hz0, hz1, hz2⟩ := info_parts info_word
  have hmk := fun W : World => run_make (P := Try.prog) W 136 151 i0 (.agg #[.int .u64 0]) Try.underlying136 hi hz0 .i64 .i64 ((n + 63) / 64) ((n + 63) / 64) (by omega) (Int.le_refl _) (by rw [hz2]; omega) (by omega)
  rw [hz1] at hmk
  simp only [Nat.mul_one] at hmk
  clear hz0 hz1 hz2 hi
  go_enter Try.func121, Try.ntmps121
  go_wp2
  go_region
  go_end0
  exact ⟨rfl, rfl⟩

end Go.Proofs.Ytknmlfolbapmpaa
