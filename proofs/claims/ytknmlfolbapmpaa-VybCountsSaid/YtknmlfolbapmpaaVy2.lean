import Derived.Test.YtknmlfolbapmpaaVy
import Derived.Test.YtknmlfolbapmpaaIt4
namespace Go.Proofs.Ytknmlfolbapmpaa
open Go Go.RowKit
attribute [local go_sem] Oper.semAt_some

theorem info_u8 : (Try.prog.info? 5).map (fun i => (i.zero, i.size, i.bytes)) = some (some (.int .u8 0), 1, 1) := by kernel_rfl
theorem made_u8 (n : Nat) : madeCells #[.int .u8 0] n = row n fun _ => .int .u8 ((0 : Nat) : Int) := by
  unfold madeCells row
  apply Array.ext
  · simp
  · intro i h1 h2
    simp [Nat.mod_one]
def Vy.none : Vy := ⟨fun _ => 0, [], false⟩
set_option maxRecDepth 100000 in
/-- vyb.New. -/
theorem vyNew_tr (k : MkId) (M : Mk) (i : ArId) (A : Ar) (hk : k.a = i.a) (hA : A.np ≤ 64) (room : Int) (hr0 : -100000 ≤ room) (hr : room ≤ 100000) : Tr Try.prog 49 #[.pointer (some ⟨k.m, 0, none⟩), .int .i64 room] (MarkP k M * ArenaP i A)
    (fun x : VyId => .pointer (some ⟨x.b, 0, none⟩)) (fun x => SP.wh (x.m = k.m ∧ x.N = 32 * A.np + 1 ∧ x.room = room.toNat) (VyP x Vy.none * (MarkP k M * ArenaP i A))) := by
  intro F w h
  have ha := (mkArena_tr k M).use (h.to (Q := MarkP k M * ArenaP i A) rfl)
  rw [hk] at ha
  have hs := (arSize_tr i A).use (h.to (SP.mul_comm _ _))
  generalize hn : 32 * A.np + 1 = n at *
  have hn2 : n ≤ 2049 := by omega
  obtain ⟨i0, hi, hz0, hz1, hz2⟩ := info_parts info_u8
  have hmk := fun W : World => run_make (P := Try.prog) W 22 5 i0 (.int .u8 0) Try.underlying22 hi hz0 .i64 .i64 (n : Int) (n : Int) (by omega) (Int.le_refl _) (by rw [hz2]; omega) (by omega)
  rw [hz1] at hmk
  simp only [Int.toNat_natCast, Nat.mul_one] at hmk
  have Hn := Lib.hid hn
  have Ha := Lib.hid ha
  have Hs := Lib.hid hs
  have H := Lib.hid h
  clear hn ha hs h hi hz0 hz1 hz2
  have hfin : ∀ rm : Nat, rm ≤ 100000 → St (VyP ⟨w.heap.size + 1, w.heap.size, k.m, n, rm⟩ Vy.none * (MarkP k M * ArenaP i A)) F ((w.alloc (.cells (madeCells #[.int .u8 0] n) 5)).alloc (.cells #[.pointer (some ⟨k.m, 0, none⟩), .slice (some ⟨w.heap.size, 0, none⟩) n n, .slice none 0 0, .int .i64 rm, .bool false] 112)) := by
    intro rm h1
    refine St.vy.2 ⟨.slice none 0 0, ⟨⟨by show n ≤ 100000; omega, h1, Nat.zero_le _⟩, fun _ => Nat.zero_le _⟩, ?_⟩
    have h3 := (H.out.alloc (.cells (madeCells #[.int .u8 0] n) 5)).alloc (.cells #[.pointer (some ⟨k.m, 0, none⟩), .slice (some ⟨w.heap.size, 0, none⟩) n n, .slice none 0 0, .int .i64 rm, .bool false] 112)
    rw [World.size_alloc, made_u8] at h3
    rw [made_u8]
    have h4 : RowP 36 (.slice none 0 0) (List.map refV Vy.none.log) = 1 := (RowP.nil _).symm
    rw [h4, SP.one_mul]
    exact h3
  have Hfin := Lib.hid hfin
  clear hfin H
  by_cases h0 : room < 0
  · have e : room.toNat = 0 := by omega
    have He := Lib.hid e; clear e
    go_enter Try.func49, Try.ntmps49
    go_wp2_with fail
    refine Ha.out.mono ?_
    rintro e w1 ⟨rfl, rfl⟩
    go_wp2_with fail
    refine Hs.out.mono ?_
    rintro e w1 ⟨rfl, rfl⟩
    go_wp2_with fail
    go_ret
    exact ⟨⟨w.heap.size + 1, w.heap.size, k.m, n, 0⟩, rfl, St.wh.2 ⟨⟨rfl, rfl, He.out.symm⟩, Hfin.out 0 (by omega)⟩⟩
  · have hn0 : 0 ≤ room := by omega
    obtain ⟨rm, rfl⟩ := Int.eq_ofNat_of_zero_le hn0
    have hrm : rm ≤ 100000 := by omega
    have Hrm := Lib.hid hrm
    clear h0 hn0 hr0 hr hrm
    go_enter Try.func49, Try.ntmps49
    go_wp2_with fail
    refine Ha.out.mono ?_
    rintro e w1 ⟨rfl, rfl⟩
    go_wp2_with fail
    refine Hs.out.mono ?_
    rintro e w1 ⟨rfl, rfl⟩
    go_wp2_with fail
    go_ret
    exact ⟨⟨w.heap.size + 1, w.heap.size, k.m, n, rm⟩, rfl, St.wh.2 ⟨⟨rfl, rfl, rfl⟩, Hfin.out rm Hrm.out⟩⟩
set_option maxRecDepth 100000 in
/-- What a reset leaves. -/
theorem vyReset_tr (i : VyId) (V : Vy) (hN : 0 < i.N) : Tr0 Try.prog 70 #[.pointer (some ⟨i.b, 0, none⟩)] (VyP i V) (.tuple #[]) (VyP i Vy.none) := by
  intro F w h
  obtain ⟨lv, hb, h1⟩ := St.vy.1 h.mul1
  obtain ⟨d0, d1, d2, d3, d4, d5⟩ := h1.vyB
  have h2 := h1.to (SP.mul_left_comm _ _ _)
  obtain ⟨i0, hi, hz0, hz1, hz2⟩ := info_parts info_u8
  have hwr := h2.at
  unfold cntObj at hwr
  have hclr := run_clear (P := Try.prog) w 22 0 5 i0 (.int .u8 0) Try.underlying22 hi hz0 rfl rfl i.cb 0 i.N i.N i.N _ hwr hN (by omega)
  have hrow : (row i.N fun k => if 0 ≤ k ∧ k < 0 + i.N then Value.int .u8 0 else Value.int .u8 (V.cnt k : Int)) = row i.N fun _ => Value.int .u8 ((0 : Nat) : Int) := row_congr fun k hk => by rw [if_pos ⟨Nat.zero_le _, by omega⟩]; rfl
  rw [hrow] at hclr
  have h3 : St (pts i.cb (cntObj i.N fun _ => 0) * (pts i.b (vyObj i lv V.over) * (RowP 36 lv (V.log.map refV) * 1))) F (w.setRow i.cb (row i.N fun _ => Value.int .u8 ((0 : Nat) : Int))) := h2.setRow
  generalize w.setRow i.cb (row i.N fun _ => Value.int .u8 ((0 : Nat) : Int)) = w1 at *
  have h4 := h3.to (SP.mul_left_comm _ _ _)
  obtain ⟨a0, a1, a2, a3, a4, a5⟩ := h4.vyB
  have f2 := a5 2
  have f4 := a5 4
  have h5 := (h4.set (off := 2) (v := .slice none 0 0)).set (off := 4) (v := .bool false)
  have h6 : St (VyP i Vy.none) F ((w1.setCell ⟨i.b, 2, none⟩ (.slice none 0 0)).setCell ⟨i.b, 4, none⟩ (.bool false)) := by
    refine St.drop (R := RowP 36 lv (V.log.map refV)) (St.vy.2 ⟨.slice none 0 0, ⟨⟨hb.1.1, hb.1.2.1, Nat.zero_le _⟩, fun _ => Nat.zero_le _⟩, ?_⟩)
    have e : RowP 36 (.slice none 0 0) (List.map refV Vy.none.log) = 1 := (RowP.nil _).symm
    rw [e, SP.one_mul]
    rw [SP.mul_one] at h5
    exact h5
  have H6 := Lib.hid h6
  clear h h1 h2 h3 h4 h5 h6 hrow hwr hi hz0 hz1 hz2 d0 d2 d3 d4 a0 a1 a3 hb a5
  go_enter Try.func70, Try.ntmps70
  go_wp2_with fail
  go_end0
  exact ⟨rfl, H6.out⟩
/-- The words of a list, shaded. -/
def Mk.shades (room : Nat) (M : Mk) (rs : List Nat) : Mk := rs.foldl (fun M r => M.shade room r) M
theorem Mk.shades_snoc (room : Nat) (M : Mk) (rs : List Nat) (r : Nat) : M.shades room (rs ++ [r]) = (M.shades room rs).shade room r := by simp [Mk.shades]
theorem Mk.shades_md (room : Nat) (M : Mk) (rs : List Nat) (h : ∀ r ∈ rs, r ≠ 0) (x : Nat) : (M.shades room rs).md x = (M.md x || decide (x ∈ rs)) ∧ (M.shades room rs).sc = M.sc := by
  induction rs generalizing M with
  | nil => simp [Mk.shades]
  | cons r rs ih =>
    obtain ⟨h1, h2⟩ := ih (M.shade room r) (fun r hr => h r (by simp [hr]))
    have e : M.shades room (r :: rs) = (M.shade room r).shades room rs := rfl
    rw [e, h1, h2, Mk.shade_md _ _ (h r (by simp)), Mk.shade_sc]
    refine ⟨?_, rfl⟩
    by_cases e : x = r
    · subst e; rw [upd_same]; simp
    · rw [upd_other _ _ e]
      simp [e]
end Go.Proofs.Ytknmlfolbapmpaa
