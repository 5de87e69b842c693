import Derived.Test.YtknmlfolbapmpaaDij
import Derived.Test.YtknmlfolbapmpaaSmall
import Derived.OrdersHeld
namespace Go.Proofs.Ytknmlfolbapmpaa
open Go Go.RowKit

theorem djPre_any (b x y : Value) (w : World) : Calls Try.prog 24 #[b, x, y] w fun e w' => e = .returned (.tuple #[]) ∧ w' = w := by
  go_enter Try.func24, Try.ntmps24
  go_wp2
  go_end0
  exact ⟨rfl, rfl⟩
theorem djRescans_any (b : Value) (w : World) : Calls Try.prog 71 #[b] w fun e w' => e = .returned (.bool true) ∧ w' = w := by
  go_enter Try.func71, Try.ntmps71
  go_wp2
  go_ret
  exact ⟨rfl, rfl⟩
/-- An object's reference. -/
theorem Madek.ref {A : Ar} {l fs : List Nat} (M : Madek A l fs) {r : Nat} (hr : r ∈ l) : 1 ≤ r ∧ r < 2049 := by
  obtain ⟨f, hO, _⟩ := M.obj hr
  obtain ⟨p, hp, ⟨h1, h2⟩, _⟩ := hO.word
  have := M.np
  omega
theorem Mk.push_md (M : Mk) (room r : Nat) : (M.push room r).md = M.md ∧ (M.push room r).sc = M.sc := by unfold Mk.push; split <;> exact ⟨rfl, rfl⟩
theorem Mk.shade_md (M : Mk) (room : Nat) {r : Nat} (h : r ≠ 0) : (M.shade room r).md = upd M.md r true := by
  unfold Mk.shade
  split
  · rename_i e
    rcases e with e | e
    · exact absurd e h
    · conv => lhs; rw [← upd_self M.md r, e]
  · exact (Mk.push_md _ _ _).1
theorem Mk.shade_sc (M : Mk) (room r : Nat) : (M.shade room r).sc = M.sc := by
  unfold Mk.shade
  split
  · rfl
  · exact (Mk.push_md _ _ _).2
set_option maxRecDepth 100000 in
set_option maxHeartbeats 2000000 in
/-- fit. -/
theorem djFit : Tr0 Try.prog 17 #[] 1 (.bool true) 1 := by
  intro F w h
  have hb := h.alloc (.cells #[.int .u8 2, .int .u8 2] 5)
  have Hb := Lib.hid hb
  clear hb h
  go_enter Try.func17, Try.ntmps17
  go_wp2_with fail
  refine (made_lit [2, 2] (by decide) (by decide) w.heap.size 2 5 F _ Hb.out).mono ?_
  rintro e w1 ⟨i, A, l, v, m, hM, rfl, h1⟩
  obtain ⟨x, y, rfl⟩ : ∃ x y, l = [x, y] := by
    have := hM.len
    match l, this with
    | [x, y], _ => exact ⟨x, y, rfl⟩
  have hx := hM.ref (r := x) (by simp)
  have hy := hM.ref (r := y) (by simp)
  have hne : x ≠ y := by have := hM.nd; simp at this; exact this
  have hnp := hM.np
  have h2 : St (RowP 36 v ([x, y].map refV) * ArenaP i A) F w1 := (h1.to (Q := RowP 36 v ([x, y].map refV) * ArenaP i A * (GroupP 36 m (outG A [x, y]) * 1)) (by simp only [SP.mul_assoc, SP.mul_left_comm, SP.mul_comm])).drop
  obtain ⟨o, cap, hv⟩ := h2.rowSlice
  have hv' : v = .slice o ([x, y] : List Nat).length cap := hv
  subst hv'
  have H2 := Lib.hid h2
  clear h1 h2 hM hv Hb
  go_wp2_with fail
  refine ((mkNew_tr i A 4 (by decide)).use (H2.out.to (SP.mul_comm _ _))).mono ?_
  rintro e w2 ⟨k, rfl, hx2⟩
  obtain ⟨⟨ha, hN, hroom⟩, h3⟩ := St.whm.1 hx2
  have HN : Hid (k.N = 2049) := Lib.hid (by rw [hN, hnp])
  clear hx2 ha hN hroom hnp H2
  have H3 := Lib.hid h3
  clear h3
  go_wp2_with fail
  refine ((djNew_tr k.m).use (H3.out.mul1.to (SP.mul_comm _ _))).mono ?_
  rintro e w3 ⟨b, rfl, h4⟩
  clear H3
  have h5 : St (RowP 36 (.slice o ([x, y] : List Nat).length cap) ([x, y].map refV) * (boxP b (.pointer (some ⟨k.m, 0, none⟩)) 97 * MarkP k ⟨fun _ => false, fun _ => false, [], false⟩)) F w3 :=
    (h4.to (Q := RowP 36 (.slice o ([x, y] : List Nat).length cap) ([x, y].map refV) * (boxP b (.pointer (some ⟨k.m, 0, none⟩)) 97 * MarkP k ⟨fun _ => false, fun _ => false, [], false⟩) * ArenaP i A) (by simp only [SP.mul_assoc, SP.mul_left_comm, SP.mul_comm])).drop
  obtain ⟨g, rfl, c0⟩ := h5.refAt (j := 0) (r := x) rfl
  obtain ⟨g', eg, c1⟩ := h5.refAt (j := 1) (r := y) rfl
  cases eg
  have H5 := Lib.hid h5
  clear h4 h5
  go_wp2_with fail
  go_quiet ((go_at_call 24; exact Calls.quiet_of_same (djPre_any _ _ _ _)))
  have h6 := H5.out.drewN nq
  obtain ⟨_, e0, d0⟩ := h6.refAt (j := 0) (r := x) rfl
  cases e0
  obtain ⟨_, e1, d1⟩ := h6.refAt (j := 1) (r := y) rfl
  cases e1
  have H6 := Lib.hid h6
  clear h6 c0 c1 H5
  generalize w3.drewN nq = w4 at *
  go_wp2_with fail
  have hc := (djPost_tr b k ⟨fun _ => false, fun _ => false, [], false⟩ x x y false false (by rw [HN.out]; exact hy.2)).use (H6.out.drew.to (SP.mul_comm _ _))
  have Hc := Lib.hid hc
  clear hc H6
  have hM1 : (Mk.shade k.room ⟨fun _ => false, fun _ => false, [], false⟩ y).md = upd (fun _ => false) y true := Mk.shade_md _ _ (by omega)
  generalize Mk.shade k.room ⟨fun _ => false, fun _ => false, [], false⟩ y = M1 at *
  have HM1 := Lib.hid hM1
  clear hM1
  have hmx : Try.prog.follows .mixedOrders = true := by kernel_rfl
  refine wp_region_held (S := fun W' => W'.cell? ⟨g, 0, none⟩ = some (.int .i64 x) ∧ W'.cell? ⟨g, 1, none⟩ = some (.int .i64 y)) hmx ?_
  refine wpAnyH_take (i := 0) (v := .pointer (some ⟨b, 0, none⟩)) rfl (by kernel_rfl) (by kernel_rfl) (by kernel_rfl) (fun _ _ _ h => h) (.inl ⟨rfl, fun W' hW => by obtain ⟨q1, q2⟩ := hW; go_simp⟩) ⟨d0, d1⟩ ?_
  refine wpAnyH_take (i := 1) (v := .slice (some ⟨g, 0, none⟩) 2 cap) rfl (by kernel_rfl) (by kernel_rfl) (by kernel_rfl) (fun _ _ _ h => h) (.inl ⟨rfl, fun W' hW => by obtain ⟨q1, q2⟩ := hW; go_simp⟩) ⟨d0, d1⟩ ?_
  refine wpAnyH_take (i := 2) (v := .pointer (some ⟨g, 0, none⟩)) rfl (by kernel_rfl) (by kernel_rfl) (by kernel_rfl) (fun _ _ _ h => h) (.inl ⟨rfl, fun W' hW => by obtain ⟨q1, q2⟩ := hW; go_simp⟩) ⟨d0, d1⟩ ?_
  refine wpAnyH_take (i := 3) (v := .int .i64 x) rfl (by kernel_rfl) (by kernel_rfl) (by kernel_rfl) (fun _ _ _ h => h) (.inl ⟨rfl, fun W' hW => by obtain ⟨q1, q2⟩ := hW; go_simp⟩) ⟨d0, d1⟩ ?_
  refine wpAnyH_take (i := 4) (v := .slice (some ⟨g, 0, none⟩) 2 cap) rfl (by kernel_rfl) (by kernel_rfl) (by kernel_rfl) (fun _ _ _ h => h) (.inl ⟨rfl, fun W' hW => by obtain ⟨q1, q2⟩ := hW; go_simp⟩) ⟨d0, d1⟩ ?_
  refine wpAnyH_take (i := 5) (v := .pointer (some ⟨g, 0, none⟩)) rfl (by kernel_rfl) (by kernel_rfl) (by kernel_rfl) (fun _ _ _ h => h) (.inl ⟨rfl, fun W' hW => by obtain ⟨q1, q2⟩ := hW; go_simp⟩) ⟨d0, d1⟩ ?_
  refine wpAnyH_take (i := 6) (v := .int .i64 x) rfl (by kernel_rfl) (by kernel_rfl) (by kernel_rfl) (fun _ _ _ h => h) (.inl ⟨rfl, fun W' hW => by obtain ⟨q1, q2⟩ := hW; go_simp⟩) ⟨d0, d1⟩ ?_
  refine wpAnyH_take (i := 7) (v := .slice (some ⟨g, 0, none⟩) 2 cap) rfl (by kernel_rfl) (by kernel_rfl) (by kernel_rfl) (fun _ _ _ h => h) (.inl ⟨rfl, fun W' hW => by obtain ⟨q1, q2⟩ := hW; go_simp⟩) ⟨d0, d1⟩ ?_
  refine wpAnyH_take (i := 8) (v := .pointer (some ⟨g, 1, none⟩)) rfl (by kernel_rfl) (by kernel_rfl) (by kernel_rfl) (fun _ _ _ h => h) (.inl ⟨rfl, fun W' hW => by obtain ⟨q1, q2⟩ := hW; go_simp⟩) ⟨d0, d1⟩ ?_
  refine wpAnyH_take (i := 9) (v := .int .i64 y) rfl (by kernel_rfl) (by kernel_rfl) (by kernel_rfl) (fun _ _ _ h => h) (.inl ⟨rfl, fun W' hW => by obtain ⟨q1, q2⟩ := hW; go_simp⟩) ⟨d0, d1⟩ ?_
  refine wpAnyH_take (i := 10) (v := .agg #[.int .i64 x, .int .i64 x, .int .i64 y, .bool false, .bool false]) rfl (by kernel_rfl) (by kernel_rfl) (by kernel_rfl) (fun _ _ _ h => h) (.inl ⟨rfl, fun W' hW => by obtain ⟨q1, q2⟩ := hW; go_simp⟩) ⟨d0, d1⟩ ?_
  refine wpAnyH_all (rs := [11]) (by kernel_rfl) (by simp) (fun q hq => ?_)
  obtain rfl : q = 11 := by simpa using hq
  refine wpOp_step rfl (fun K' hK' => ?_)
  go_simp
  refine Hc.out.mono ?_
  rintro e w5 ⟨rfl, h7⟩
  have h8 : St (RowP 36 (.slice (some ⟨g, 0, none⟩) ([x, y] : List Nat).length cap) ([x, y].map refV) * (boxP b (.pointer (some ⟨k.m, 0, none⟩)) 97 * MarkP k M1)) F w5 := h7.to (SP.mul_comm _ _)
  obtain ⟨_, e2, f0⟩ := h8.refAt (j := 0) (r := x) rfl
  cases e2
  obtain ⟨_, e3, f1⟩ := h8.refAt (j := 1) (r := y) rfl
  cases e3
  have h9 : St (MarkP k M1 * 1) F w5 := by
    rw [SP.mul_one]
    exact (h8.to (Q := MarkP k M1 * (RowP 36 (.slice (some ⟨g, 0, none⟩) ([x, y] : List Nat).length cap) ([x, y].map refV) * boxP b (.pointer (some ⟨k.m, 0, none⟩)) 97)) (by simp only [SP.mul_left_comm, SP.mul_comm])).drop
  have hy1 := (marked_tr k M1 y (by rw [HN.out]; exact hy.2)).use (h8.to (Q := MarkP k M1 * (RowP 36 (.slice (some ⟨g, 0, none⟩) ([x, y] : List Nat).length cap) ([x, y].map refV) * boxP b (.pointer (some ⟨k.m, 0, none⟩)) 97)) (by simp only [SP.mul_left_comm, SP.mul_comm]))
  have e4 : M1.md y = true := by rw [HM1.out]; exact upd_same _ _ _
  have e5 : M1.md x = false := by rw [HM1.out]; exact upd_other _ _ hne
  rw [e4] at hy1
  have HY := Lib.hid hy1
  have HE := Lib.hid e5
  clear h7 h8 h9 hy1 e4 e5 Hc d0 d1
  refine hK' _ _ ⟨⟨f0, f1⟩, ?_⟩
  clear hK' K'
  refine wpAnyH_done (by kernel_rfl) ?_ _
  go_wp2_with fail
  refine (djRescans_any _ _).mono ?_
  rintro e w6 ⟨rfl, rfl⟩
  go_wp2_with fail
  refine HY.out.mono ?_
  rintro e w6 ⟨rfl, h10⟩
  have h11 : St (RowP 36 (.slice (some ⟨g, 0, none⟩) ([x, y] : List Nat).length cap) ([x, y].map refV) * (boxP b (.pointer (some ⟨k.m, 0, none⟩)) 97 * MarkP k M1)) F w6 := h10.to (by simp only [SP.mul_left_comm, SP.mul_comm])
  obtain ⟨_, e2, k0⟩ := h11.refAt (j := 0) (r := x) rfl
  cases e2
  have hx1 := (marked_tr k M1 x (by rw [HN.out]; exact hx.2)).use h10
  rw [HE.out] at hx1
  have HX := Lib.hid hx1
  clear h10 h11 hx1 f0 f1 HY
  go_wp2_with fail
  refine HX.out.mono ?_
  rintro e w7 ⟨rfl, h12⟩
  go_wp2_with fail
  go_ret
  exact ⟨rfl, h12.frame⟩
end Go.Proofs.Ytknmlfolbapmpaa
