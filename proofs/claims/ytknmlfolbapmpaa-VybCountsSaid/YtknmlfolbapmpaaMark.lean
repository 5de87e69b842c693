import Derived.Test.YtknmlfolbapmpaaCell
import Derived.Test.YtknmlfolbapmpaaGrey
namespace Go.Proofs.Ytknmlfolbapmpaa
open Go Go.RowKit

/-- A marker's blocks, its sets' size, its stack's room. -/
structure MkId where
  m : Nat
  a : Nat
  mb : Nat
  sb : Nat
  g : Nat
  N : Nat
  room : Nat
/-- A marker's content. -/
structure Mk where
  md : Nat → Bool
  sc : Nat → Bool
  stk : List Nat
  over : Bool
def mkObj (i : MkId) : Obj := .cells #[.pointer (some ⟨i.a, 0, none⟩), .pointer (some ⟨i.mb, 0, none⟩), .pointer (some ⟨i.sb, 0, none⟩), .pointer (some ⟨i.g, 0, none⟩)] 94 (0, 0)
def MarkP (i : MkId) (M : Mk) : SP := pts i.m (mkObj i) * (SetP i.mb i.N M.md * (SetP i.sb i.N M.sc * GreyP i.g i.room M.over M.stk))
theorem St.mark {i : MkId} {M : Mk} {R : SP} {F : Fr} {w : World} : St (MarkP i M * R) F w ↔ St (pts i.m (mkObj i) * (SetP i.mb i.N M.md * (SetP i.sb i.N M.sc * (GreyP i.g i.room M.over M.stk * R)))) F w := by
  unfold MarkP
  simp only [SP.mul_assoc]

/-- The marker's fields. -/
theorem St.markF {i : MkId} {M : Mk} {R : SP} {F : Fr} {w : World} (h : St (MarkP i M * R) F w) :
    w.cell? ⟨i.m, 0, none⟩ = some (.pointer (some ⟨i.a, 0, none⟩)) ∧ w.cell? ⟨i.m, 1, none⟩ = some (.pointer (some ⟨i.mb, 0, none⟩)) ∧ w.cell? ⟨i.m, 2, none⟩ = some (.pointer (some ⟨i.sb, 0, none⟩)) ∧ w.cell? ⟨i.m, 3, none⟩ = some (.pointer (some ⟨i.g, 0, none⟩)) := by
  have hb := (St.mark.1 h).at
  exact ⟨by rw [cell_of hb]; rfl, by rw [cell_of hb]; rfl, by rw [cell_of hb]; rfl, by rw [cell_of hb]; rfl⟩
theorem St.markMb {i : MkId} {M : Mk} {R : SP} {F : Fr} {w : World} : St (MarkP i M * R) F w ↔ St (SetP i.mb i.N M.md * (pts i.m (mkObj i) * (SetP i.sb i.N M.sc * (GreyP i.g i.room M.over M.stk * R)))) F w := by
  rw [St.mark, SP.mul_left_comm]
theorem St.markSb {i : MkId} {M : Mk} {R : SP} {F : Fr} {w : World} : St (MarkP i M * R) F w ↔ St (SetP i.sb i.N M.sc * (pts i.m (mkObj i) * (SetP i.mb i.N M.md * (GreyP i.g i.room M.over M.stk * R)))) F w := by
  rw [St.mark, SP.mul_left_comm (SetP i.mb _ _), SP.mul_left_comm]
theorem St.markG {i : MkId} {M : Mk} {R : SP} {F : Fr} {w : World} : St (MarkP i M * R) F w ↔ St (GreyP i.g i.room M.over M.stk * (pts i.m (mkObj i) * (SetP i.mb i.N M.md * (SetP i.sb i.N M.sc * R)))) F w := by
  rw [St.mark, SP.mul_left_comm (SetP i.sb _ _), SP.mul_left_comm (SetP i.mb _ _), SP.mul_left_comm]

/-- Arena: its. -/
theorem mkArena_tr (i : MkId) (M : Mk) : Tq Try.prog 82 #[.pointer (some ⟨i.m, 0, none⟩)] (MarkP i M) (.pointer (some ⟨i.a, 0, none⟩)) := by
  intro F w h
  obtain ⟨c0, _, _, _⟩ := h.mul1.markF
  go_enter Try.func82, Try.ntmps82
  go_wp2
  go_ret
  exact ⟨rfl, rfl⟩
/-- Marked. -/
theorem marked_tr (i : MkId) (M : Mk) (r : Nat) (hr : r < i.N) : Tr0 Try.prog 28 #[.pointer (some ⟨i.m, 0, none⟩), .int .i64 r] (MarkP i M) (.bool (M.md r)) (MarkP i M) := by
  intro F w h
  obtain ⟨_, c1, _, _⟩ := h.mul1.markF
  have hc := (has_in i.mb i.N M.md (r : Int) (by omega) (by omega)).use (St.markMb.1 h.mul1)
  rw [Int.toNat_natCast] at hc
  go_enter Try.func28, Try.ntmps28
  go_wp2_with fail
  refine hc.mono ?_
  rintro e w1 ⟨rfl, h1⟩
  go_wp2
  go_ret
  exact ⟨rfl, (St.markMb.2 h1).unmul1⟩
/-- Scanned. -/
theorem scanned_tr (i : MkId) (M : Mk) (r : Nat) (hr : r < i.N) : Tr0 Try.prog 29 #[.pointer (some ⟨i.m, 0, none⟩), .int .i64 r] (MarkP i M) (.bool (M.sc r)) (MarkP i M) := by
  intro F w h
  obtain ⟨_, _, c1, _⟩ := h.mul1.markF
  have hc := (has_in i.sb i.N M.sc (r : Int) (by omega) (by omega)).use (St.markSb.1 h.mul1)
  rw [Int.toNat_natCast] at hc
  go_enter Try.func29, Try.ntmps29
  go_wp2_with fail
  refine hc.mono ?_
  rintro e w1 ⟨rfl, h1⟩
  go_wp2
  go_ret
  exact ⟨rfl, (St.markSb.2 h1).unmul1⟩

/-- What is pushed. -/
def Mk.push (room : Nat) (M : Mk) (r : Nat) : Mk := if M.stk.length < room then { M with stk := M.stk ++ [r] } else { M with over := true }
/-- A white one becomes grey. -/
def Mk.shade (room : Nat) (M : Mk) (r : Nat) : Mk := if r = 0 ∨ M.md r = true then M else Mk.push room { M with md := upd M.md r true } r
/-- 'Push' of a marker's stack. -/
theorem St.push_calls {i : MkId} {M : Mk} {r : Nat} {R : SP} {F : Fr} {w : World} (h : St (MarkP i M * R) F w) :
    Calls Try.prog 78 #[.pointer (some ⟨i.g, 0, none⟩), .int .i64 r] w fun e w' => e = .returned (.bool (decide (M.stk.length < i.room))) ∧ St (MarkP i (M.push i.room r) * R) F w' := by
  by_cases hl : M.stk.length < i.room
  · refine ((push_room i.g i.room r M.over M.stk hl).use (St.markG.1 h)).mono ?_
    rintro e w' ⟨rfl, h1⟩
    refine ⟨by simp [hl], ?_⟩
    unfold Mk.push
    rw [if_pos hl]
    exact St.markG.2 h1
  · refine ((push_over i.g i.room r M.over M.stk hl).use (St.markG.1 h)).mono ?_
    rintro e w' ⟨rfl, h1⟩
    refine ⟨by simp [hl], ?_⟩
    unfold Mk.push
    rw [if_neg hl]
    exact St.markG.2 h1
set_option maxRecDepth 100000 in
/-- Shade. -/
theorem shade_tr (i : MkId) (M : Mk) (r : Nat) (hr : r < i.N) : Tr0 Try.prog 21 #[.pointer (some ⟨i.m, 0, none⟩), .int .i64 r] (MarkP i M) (.bool (!(r == 0) && !M.md r)) (MarkP i (M.shade i.room r)) := by
  intro F w h
  obtain ⟨_, c1, _, _⟩ := h.mul1.markF
  by_cases h0 : r = 0
  · subst h0
    have e : M.shade i.room 0 = M := by unfold Mk.shade; rw [if_pos (.inl rfl)]
    rw [e]
    go_enter Try.func21, Try.ntmps21
    go_wp2
    go_ret
    exact ⟨rfl, h⟩
  · have hz : ((r : Int) == 0) = false := by rw [beq_eq_false_iff_ne]; omega
    have hz2 : (r == 0) = false := by rw [beq_eq_false_iff_ne]; exact h0
    have hc := (put_in i.mb i.N M.md (r : Int) (by omega) (by omega)).use (St.markMb.1 h.mul1)
    rw [Int.toNat_natCast] at hc
    rw [hz2]
    clear hz2
    have H0 := Lib.hid h0
    clear h0
    cases hm : M.md r
    · have Hm := Lib.hid hm
      rw [hm] at hc
      clear hm
      go_enter Try.func21, Try.ntmps21
      go_wp2_with fail
      refine hc.mono ?_
      rintro e w1 ⟨rfl, h1⟩
      have h2 : St (MarkP i { M with md := upd M.md r true } * 1) F w1 := St.markMb.2 h1
      obtain ⟨_, _, _, c3⟩ := h2.markF
      clear h1
      go_wp2_with fail
      refine h2.push_calls.mono ?_
      rintro e w2 ⟨rfl, h3⟩
      go_wp2
      go_ret
      refine ⟨rfl, ?_⟩
      have e : M.shade i.room r = Mk.push i.room { M with md := upd M.md r true } r := by
        unfold Mk.shade
        rw [if_neg (by rintro (e | e); exact H0.out e; rw [Hm.out] at e; cases e)]
      rw [e]
      exact h3.unmul1
    · have Hm := Lib.hid hm
      rw [hm] at hc
      clear hm
      go_enter Try.func21, Try.ntmps21
      go_wp2_with fail
      refine hc.mono ?_
      rintro e w1 ⟨rfl, h1⟩
      have h2 : St (MarkP i { M with md := upd M.md r true } * 1) F w1 := St.markMb.2 h1
      clear h1
      go_wp2
      go_ret
      refine ⟨rfl, ?_⟩
      have e : M.shade i.room r = M := by unfold Mk.shade; rw [if_pos (.inr Hm.out)]
      have e2 : upd M.md r true = M.md := by conv => lhs; rw [← Hm.out]
                                             exact upd_self _ _
      rw [e]
      rw [e2] at h2
      exact h2.unmul1
set_option maxRecDepth 100000 in
/-- Blacken. -/
theorem blacken_tr (i : MkId) (M : Mk) (r : Nat) (hr : r < i.N) (h0 : r ≠ 0) : Tr0 Try.prog 22 #[.pointer (some ⟨i.m, 0, none⟩), .int .i64 r] (MarkP i M) (.tuple #[]) (MarkP i { M with md := upd M.md r true, sc := upd M.sc r true }) := by
  intro F w h
  obtain ⟨_, c1, _, _⟩ := h.mul1.markF
  have hz : ((r : Int) != 0) = true := by simp; omega
  have hc := (put_in i.mb i.N M.md (r : Int) (by omega) (by omega)).use (St.markMb.1 h.mul1)
  rw [Int.toNat_natCast] at hc
  have hc2 := put_in i.sb i.N M.sc (r : Int) (by omega) (by omega)
  rw [Int.toNat_natCast] at hc2
  have Hc2 := Lib.hid hc2
  clear h0 hc2
  go_enter Try.func22, Try.ntmps22
  go_wp2_with fail
  refine hc.mono ?_
  rintro e w1 ⟨rfl, h1⟩
  have h2 : St (MarkP i { M with md := upd M.md r true } * 1) F w1 := St.markMb.2 h1
  obtain ⟨_, _, c2, _⟩ := h2.markF
  clear h1
  go_wp2_with fail
  refine (Hc2.out.use (St.markSb (M := { M with md := upd M.md r true }).1 h2)).mono ?_
  rintro e w2 ⟨rfl, h3⟩
  have h4 : St (MarkP i { M with md := upd M.md r true, sc := upd M.sc r true } * 1) F w2 := St.markSb.2 h3
  go_wp2
  go_end0
  exact ⟨rfl, h4.unmul1⟩
set_option maxRecDepth 100000 in
/-- Forget. -/
theorem forget_tr (i : MkId) (M : Mk) (r : Nat) (hr : r < i.N) : Tr0 Try.prog 84 #[.pointer (some ⟨i.m, 0, none⟩), .int .i64 r] (MarkP i M) (.tuple #[]) (MarkP i { M with md := upd M.md r false, sc := upd M.sc r false }) := by
  intro F w h
  obtain ⟨_, c1, _, _⟩ := h.mul1.markF
  have hc := (drop_in i.mb i.N M.md (r : Int) (by omega) (by omega)).use (St.markMb.1 h.mul1)
  rw [Int.toNat_natCast] at hc
  have hc2 := drop_in i.sb i.N M.sc (r : Int) (by omega) (by omega)
  rw [Int.toNat_natCast] at hc2
  have Hc2 := Lib.hid hc2
  clear hc2
  go_enter Try.func84, Try.ntmps84
  go_wp2_with fail
  refine hc.mono ?_
  rintro e w1 ⟨rfl, h1⟩
  have h2 : St (MarkP i { M with md := upd M.md r false } * 1) F w1 := St.markMb.2 h1
  obtain ⟨_, _, c2, _⟩ := h2.markF
  clear h1
  go_wp2_with fail
  refine (Hc2.out.use (St.markSb (M := { M with md := upd M.md r false }).1 h2)).mono ?_
  rintro e w2 ⟨rfl, h3⟩
  have h4 : St (MarkP i { M with md := upd M.md r false, sc := upd M.sc r false } * 1) F w2 := St.markSb.2 h3
  go_wp2
  go_end0
  exact ⟨rfl, h4.unmul1⟩
set_option maxRecDepth 100000 in
/-- isGrey. -/
theorem isGrey_tr (i : MkId) (M : Mk) (r : Nat) (hr : r < i.N) : Tr0 Try.prog 112 #[.pointer (some ⟨i.m, 0, none⟩), .int .i64 r] (MarkP i M) (.bool (M.md r && !M.sc r)) (MarkP i M) := by
  intro F w h
  have hc := marked_tr i M r hr F w h
  have Hc2 := Lib.hid (scanned_tr i M r hr F)
  cases hm : M.md r
  · rw [hm] at hc
    clear hm
    go_enter Try.func112, Try.ntmps112
    go_wp2_with fail
    refine hc.mono ?_
    rintro e w1 ⟨rfl, h1⟩
    go_wp2
    go_ret
    exact ⟨rfl, h1⟩
  · rw [hm] at hc
    clear hm
    go_enter Try.func112, Try.ntmps112
    go_wp2_with fail
    refine hc.mono ?_
    rintro e w1 ⟨rfl, h1⟩
    go_wp2_with fail
    refine (Hc2.out _ h1).mono ?_
    rintro e w2 ⟨rfl, h2⟩
    go_wp2
    go_ret
    exact ⟨rfl, h2⟩
end Go.Proofs.Ytknmlfolbapmpaa
