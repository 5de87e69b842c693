import Derived.Test.YtknmlfolbapmpaaPick
namespace Go.Proofs.Ytknmlfolbapmpaa
open Go Go.RowKit

/-- What a barrier bears: its marker's Shade. -/
def yuV (m : Nat) : Value := .func (.func 21) #[.pointer (some ⟨m, 0, none⟩)] #[]
theorem yuV_eq (m : Nat) : Value.func (.func 21) #[.pointer (some ⟨m, 0, none⟩)] #[] = yuV m := rfl
/-- A barrier and its marker. -/
def YuP (b : Nat) (i : MkId) (M : Mk) : SP := boxP b (yuV i.m) 99 * MarkP i M
theorem St.yuMark {b : Nat} {i : MkId} {M : Mk} {R : SP} {F : Fr} {w : World} : St (YuP b i M * R) F w ↔ St (MarkP i M * (boxP b (yuV i.m) 99 * R)) F w := by
  unfold YuP
  rw [SP.mul_assoc, SP.mul_left_comm]
theorem St.yuBox {b : Nat} {i : MkId} {M : Mk} {R : SP} {F : Fr} {w : World} (h : St (YuP b i M * R) F w) : w.cell? ⟨b, 0, none⟩ = some (.func (.func 21) #[.pointer (some ⟨i.m, 0, none⟩)] #[]) := by
  unfold YuP at h
  rw [SP.mul_assoc] at h
  exact h.box
/-- yuasa.New. -/
theorem yuNew_tr (m : Nat) : Tr Try.prog 31 #[.pointer (some ⟨m, 0, none⟩)] 1 (fun b : Nat => .pointer (some ⟨b, 0, none⟩)) (fun b => boxP b (yuV m) 99) := by
  intro F w h
  go_enter Try.func31, Try.ntmps31
  go_wp2
  go_ret
  exact ⟨w.heap.size, rfl, (h.boxNew _ _).unmul1⟩
theorem yuRemark_any (b : Value) (w : World) : Calls Try.prog 35 #[b] w fun e w' => e = .returned (.tuple #[]) ∧ w' = w := by
  go_enter Try.func35, Try.ntmps35
  go_wp2
  go_end0
  exact ⟨rfl, rfl⟩
theorem yuReset_any (b : Value) (w : World) : Calls Try.prog 36 #[b] w fun e w' => e = .returned (.tuple #[]) ∧ w' = w := by
  go_enter Try.func36, Try.ntmps36
  go_wp2
  go_end0
  exact ⟨rfl, rfl⟩
theorem yuRescans_any (b : Value) (w : World) : Calls Try.prog 80 #[b] w fun e w' => e = .returned (.bool false) ∧ w' = w := by
  go_enter Try.func80, Try.ntmps80
  go_wp2
  go_ret
  exact ⟨rfl, rfl⟩
/-- Pre: what stands there is shaded. -/
theorem yuPre_tr (b : Nat) (i : MkId) (M : Mk) (x : Int) (y : Nat) (hy : y < i.N) : Tr0 Try.prog 32 #[.pointer (some ⟨b, 0, none⟩), .int .i64 x, .int .i64 y] (YuP b i M) (.tuple #[]) (YuP b i (M.shade i.room y)) := by
  intro F w h
  have c0 := h.mul1.yuBox
  have Hc := Lib.hid ((shade_tr i M y hy).use (St.yuMark.1 h.mul1))
  clear h
  go_enter Try.func32, Try.ntmps32
  go_wp2_with fail
  refine Hc.out.mono ?_
  rintro e w' ⟨rfl, h1⟩
  have h2 := St.yuMark.2 h1
  clear h1
  go_wp2_with fail
  go_end0
  exact ⟨rfl, h2.unmul1⟩
/-- What Post does. -/
def yuPost (room : Nat) (M : Mk) (y z : Nat) (er : Bool) : Mk := if er then (M.shade room y).shade room z else M.shade room y
set_option maxRecDepth 100000 in
/-- Post: so is what was taken away; and what was written, early on. -/
theorem yuPost_tr (b : Nat) (i : MkId) (M : Mk) (x : Int) (y z : Nat) (bk er : Bool) (hy : y < i.N) (hz : z < i.N) : Tr0 Try.prog 33 #[.pointer (some ⟨b, 0, none⟩), .agg #[.int .i64 x, .int .i64 y, .int .i64 z, .bool bk, .bool er]]
    (YuP b i M) (.tuple #[]) (YuP b i (yuPost i.room M y z er)) := by
  intro F w h
  have h1 := h.mul1.alloc (.cells #[.int .i64 x, .int .i64 y, .int .i64 z, .bool bk, .bool er] 45)
  have h2 : St (YuP b i M * (pts w.heap.size (.cells #[.int .i64 x, .int .i64 y, .int .i64 z, .bool bk, .bool er] 45 (0, 0)) * 1)) F (w.alloc (.cells #[.int .i64 x, .int .i64 y, .int .i64 z, .bool bk, .bool er] 45)) := h1.to (SP.mul_left_comm _ _ _)
  have h2 := h2.drew
  have hS : (w.alloc (.cells #[.int .i64 x, .int .i64 y, .int .i64 z, .bool bk, .bool er] 45)).drew.cell? ⟨b, 0, none⟩ = some (.func (.func 21) #[.pointer (some ⟨i.m, 0, none⟩)] #[]) ∧ (w.alloc (.cells #[.int .i64 x, .int .i64 y, .int .i64 z, .bool bk, .bool er] 45)).drew.cell? ⟨w.heap.size, 1, none⟩ = some (.int .i64 y) :=
    ⟨h2.yuBox, by rw [cell_of (h2.to (SP.mul_left_comm _ _ _)).at]; rfl⟩
  have hS' := hS
  have Hc := Lib.hid ((shade_tr i M y hy).use (St.yuMark.1 h2))
  clear h1 h2 h hS'
  go_enter Try.func33, Try.ntmps33
  go_wp2_with fail
  refine wp_region_held (S := fun W' => W'.cell? ⟨b, 0, none⟩ = some (.func (.func 21) #[.pointer (some ⟨i.m, 0, none⟩)] #[]) ∧ W'.cell? ⟨w.heap.size, 1, none⟩ = some (.int .i64 y)) (by kernel_rfl) ?_
  refine wpAnyH_take (i := 0) (v := _) rfl (by kernel_rfl) (by kernel_rfl) (by kernel_rfl) (fun _ _ _ h => h) (.inl ⟨rfl, fun W' hW => by obtain ⟨q1, q2⟩ := hW; go_simp; rfl⟩) hS ?_
  refine wpAnyH_take (i := 1) (v := _) rfl (by kernel_rfl) (by kernel_rfl) (by kernel_rfl) (fun _ _ _ h => h) (.inl ⟨rfl, fun W' hW => by obtain ⟨q1, q2⟩ := hW; go_simp; rfl⟩) hS ?_
  refine wpAnyH_take (i := 2) (v := _) rfl (by kernel_rfl) (by kernel_rfl) (by kernel_rfl) (fun _ _ _ h => h) (.inl ⟨rfl, fun W' hW => by obtain ⟨q1, q2⟩ := hW; go_simp; rfl⟩) hS ?_
  refine wpAnyH_take (i := 3) (v := _) rfl (by kernel_rfl) (by kernel_rfl) (by kernel_rfl) (fun _ _ _ h => h) (.inl ⟨rfl, fun W' hW => by obtain ⟨q1, q2⟩ := hW; go_simp; rfl⟩) hS ?_
  refine wpAnyH_take (i := 4) (v := _) rfl (by kernel_rfl) (by kernel_rfl) (by kernel_rfl) (fun _ _ _ h => h) (.inl ⟨rfl, fun W' hW => by obtain ⟨q1, q2⟩ := hW; go_simp; rfl⟩) hS ?_
  refine wpAnyH_take (i := 5) (v := _) rfl (by kernel_rfl) (by kernel_rfl) (by kernel_rfl) (fun _ _ _ h => h) (.inl ⟨rfl, fun W' hW => by obtain ⟨q1, q2⟩ := hW; go_simp; rfl⟩) hS ?_
  refine wpAnyH_all (rs := [6]) (by kernel_rfl) (by simp) (fun q hq => ?_)
  obtain rfl : q = 6 := by simpa using hq
  clear hq
  refine wpOp_step rfl (fun K' hK' => ?_)
  go_simp
  clear hS
  refine Hc.out.mono ?_
  rintro e w1 ⟨rfl, h3⟩
  have h4 := St.yuMark.2 h3
  have c0 := h4.yuBox
  have hp := (h4.to (SP.mul_left_comm _ _ _)).at
  have c1 : w1.cell? ⟨w.heap.size, 1, none⟩ = some (.int .i64 y) := by rw [cell_of hp]; rfl
  have c4 : w1.cell? ⟨w.heap.size, 4, none⟩ = some (.bool er) := by rw [cell_of hp]; rfl
  refine hK' _ _ ⟨⟨c0, c1⟩, ?_⟩
  clear hK' K' hp c1 Hc h3
  refine wpAnyH_done (by kernel_rfl) ?_ _
  have H4 := Lib.hid h4
  clear h4
  cases er
  · go_wp2_with fail
    go_end0
    exact ⟨rfl, H4.out.drop⟩
  · have h5 := H4.out.drew
    have hS : w1.drew.cell? ⟨b, 0, none⟩ = some (.func (.func 21) #[.pointer (some ⟨i.m, 0, none⟩)] #[]) ∧ w1.drew.cell? ⟨w.heap.size, 2, none⟩ = some (.int .i64 z) :=
      ⟨h5.yuBox, by rw [cell_of (h5.to (SP.mul_left_comm _ _ _)).at]; rfl⟩
    have Hc := Lib.hid ((shade_tr i (M.shade i.room y) z hz).use (St.yuMark.1 h5))
    clear h5 H4
    go_wp2_with fail
    clear c0 c4
    refine wp_region_held (S := fun W' => W'.cell? ⟨b, 0, none⟩ = some (.func (.func 21) #[.pointer (some ⟨i.m, 0, none⟩)] #[]) ∧ W'.cell? ⟨w.heap.size, 2, none⟩ = some (.int .i64 z)) (by kernel_rfl) ?_
    refine wpAnyH_take (i := 0) (v := _) rfl (by kernel_rfl) (by kernel_rfl) (by kernel_rfl) (fun _ _ _ h => h) (.inl ⟨rfl, fun W' hW => by obtain ⟨q1, q2⟩ := hW; go_simp; rfl⟩) hS ?_
    refine wpAnyH_take (i := 1) (v := _) rfl (by kernel_rfl) (by kernel_rfl) (by kernel_rfl) (fun _ _ _ h => h) (.inl ⟨rfl, fun W' hW => by obtain ⟨q1, q2⟩ := hW; go_simp; rfl⟩) hS ?_
    refine wpAnyH_take (i := 2) (v := _) rfl (by kernel_rfl) (by kernel_rfl) (by kernel_rfl) (fun _ _ _ h => h) (.inl ⟨rfl, fun W' hW => by obtain ⟨q1, q2⟩ := hW; go_simp; rfl⟩) hS ?_
    refine wpAnyH_take (i := 3) (v := _) rfl (by kernel_rfl) (by kernel_rfl) (by kernel_rfl) (fun _ _ _ h => h) (.inl ⟨rfl, fun W' hW => by obtain ⟨q1, q2⟩ := hW; go_simp; rfl⟩) hS ?_
    refine wpAnyH_take (i := 4) (v := _) rfl (by kernel_rfl) (by kernel_rfl) (by kernel_rfl) (fun _ _ _ h => h) (.inl ⟨rfl, fun W' hW => by obtain ⟨q1, q2⟩ := hW; go_simp; rfl⟩) hS ?_
    refine wpAnyH_take (i := 5) (v := _) rfl (by kernel_rfl) (by kernel_rfl) (by kernel_rfl) (fun _ _ _ h => h) (.inl ⟨rfl, fun W' hW => by obtain ⟨q1, q2⟩ := hW; go_simp; rfl⟩) hS ?_
    refine wpAnyH_all (rs := [6]) (by kernel_rfl) (by simp) (fun q hq => ?_)
    obtain rfl : q = 6 := by simpa using hq
    clear hq
    refine wpOp_step rfl (fun K' hK' => ?_)
    go_simp
    clear hS
    refine Hc.out.mono ?_
    rintro e w2 ⟨rfl, h3⟩
    have h4 := St.yuMark.2 h3
    have hp := (h4.to (SP.mul_left_comm _ _ _)).at
    refine hK' _ _ ⟨⟨h4.yuBox, by rw [cell_of hp]; rfl⟩, ?_⟩
    clear hK' K' hp Hc h3
    refine wpAnyH_done (by kernel_rfl) ?_ _
    have H4 := Lib.hid h4
    clear h4
    go_wp2_with fail
    go_end0
    exact ⟨rfl, H4.out.drop⟩
end Go.Proofs.Ytknmlfolbapmpaa
