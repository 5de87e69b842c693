import Derived.Test.YtknmlfolbapmpaaVy3
import Derived.Test.YtknmlfolbapmpaaYr
namespace Go.Proofs.Ytknmlfolbapmpaa
open Go Go.RowKit

/-- Post. -/
theorem vyPost_tr (i : VyId) (V : Vy) (x : Int) (y z : Nat) (bk er : Bool) (hy : y < i.N) (hz : z < i.N) : Tr0 Try.prog 51 #[.pointer (some ⟨i.b, 0, none⟩), .agg #[.int .i64 x, .int .i64 y, .int .i64 z, .bool bk, .bool er]] (VyP i V) (.tuple #[]) (VyP i (V.post i.room y z bk)) := by
  cases bk
  · exact vyPost_white i V x y z er
  · exact vyPost_black i V x y z er hy hz
/-- What holds between a barrier's counts and its log. -/
structure VyOk (l : List Nat) (V : Vy) : Prop where
  log : ∀ r ∈ V.log, r ∈ l
  cnt : ∀ r, 0 < V.cnt r → r ∈ l
  all : V.over = false → ∀ r, 0 < V.cnt r → r ∈ V.log
theorem VyOk.none (l : List Nat) : VyOk l Vy.none := ⟨fun r h => by simp [Vy.none] at h, fun r h => by simp [Vy.none] at h, fun _ r h => by simp [Vy.none] at h⟩
theorem VyOk.up {l : List Nat} {V : Vy} (h : VyOk l V) (room : Nat) {z : Nat} (hz : z ∈ l) : VyOk l (V.up room z) := by
  unfold Vy.up
  refine ⟨?_, ?_, ?_⟩
  · intro r hr
    dsimp only at hr
    split at hr
    · rcases List.mem_append.1 hr with e | e
      · exact h.log r e
      · rw [List.mem_singleton.1 e]; exact hz
    · exact h.log r hr
  · intro r hr
    dsimp only [upd] at hr
    split at hr
    · rename_i e; rw [e]; exact hz
    · exact h.cnt r hr
  · intro ho r hr
    dsimp only [upd] at ho hr ⊢
    split at ho
    · rename_i hl
      rw [if_pos hl]
      split at hr
      · rename_i e; rw [e]; simp
      · exact List.mem_append_left _ (h.all ho r hr)
    · cases ho
theorem VyOk.dn {l : List Nat} {V : Vy} (h : VyOk l V) (y : Nat) : VyOk l (V.dn y) := by
  unfold Vy.dn
  split
  · rename_i hy
    refine ⟨h.log, ?_, ?_⟩
    · intro r hr
      dsimp only [upd] at hr
      split at hr
      · rename_i e; rw [e]; exact h.cnt y hy.2.1
      · exact h.cnt r hr
    · intro ho r hr
      dsimp only [upd] at hr
      split at hr
      · rename_i e; rw [e]; exact h.all ho y hy.2.1
      · exact h.all ho r hr
  · exact h
theorem VyOk.post {l : List Nat} {V : Vy} (h : VyOk l V) (room y : Nat) {z : Nat} (bk : Bool) (hz : z = 0 ∨ z ∈ l) : VyOk l (V.post room y z bk) := by
  unfold Vy.post
  split
  · split
    · exact h.dn y
    · rename_i e
      rcases hz with hz | hz
      · exact absurd hz e
      · exact (h.up room hz).dn y
  · exact h
theorem VyOk.mem {l : List Nat} {V : Vy} (h : VyOk l V) (A : Ar) (N : Nat) (hl : ∀ r ∈ l, r < N ∧ A.tk r = true) (r : Nat) : r ∈ vyRs A N V ↔ 0 < V.cnt r := by
  unfold vyRs
  cases ho : V.over
  · simp only [Bool.false_eq_true, if_false, List.mem_filter, decide_eq_true_eq]
    exact ⟨fun e => e.2, fun e => ⟨h.all ho r e, e⟩⟩
  · simp only [if_true, List.mem_filter, List.mem_range, Bool.and_eq_true, decide_eq_true_eq]
    exact ⟨fun e => e.2.2, fun e => ⟨(hl r (h.cnt r e)).1, (hl r (h.cnt r e)).2, e⟩⟩
theorem VyOk.marks {l : List Nat} {V : Vy} (h : VyOk l V) (A : Ar) (N : Nat) (hl : ∀ r ∈ l, r < N ∧ A.tk r = true) (h0 : 0 ∉ l) (room : Nat) (M : Mk) (r : Nat) :
    (M.shades room (vyRs A N V)).md r = (M.md r || decide (0 < V.cnt r)) ∧ (M.shades room (vyRs A N V)).sc = M.sc := by
  have hne : ∀ x ∈ vyRs A N V, x ≠ 0 := fun x hx e => h0 (e ▸ h.cnt x ((h.mem A N hl x).1 hx))
  obtain ⟨h1, h2⟩ := Mk.shades_md room M (vyRs A N V) hne r
  refine ⟨?_, h2⟩
  rw [h1]
  congr 1
  simp only [h.mem A N hl r]
theorem Madek.tks {A : Ar} {l fs : List Nat} (M : Madek A l fs) : (∀ r ∈ l, r < 32 * A.np + 1 ∧ A.tk r = true) ∧ 0 ∉ l := by
  have hnp := M.np
  refine ⟨fun r hr => ⟨by have := M.ref hr; omega, ?_⟩, fun h => by have := M.ref h; omega⟩
  obtain ⟨f, hO, _⟩ := M.obj hr
  obtain ⟨p, _, _, h3, _⟩ := hO.word
  exact h3

set_option maxRecDepth 100000 in
set_option maxHeartbeats 20000000 in
/-- fit. -/
theorem vyFit : Tr0 Try.prog 48 #[] 1 (.bool true) 1 := by
  intro F w h
  have hb := h.alloc (.cells #[.int .u8 2, .int .u8 2] 5)
  have Hb := Lib.hid hb
  clear hb h
  go_enter Try.func48, Try.ntmps48
  go_wp2_with fail
  refine (made_lit [2, 2] (by decide) (by decide) w.heap.size 2 5 F _ Hb.out).mono ?_
  rintro e w1 ⟨i, A, l, v, m, hM, rfl, h1⟩
  obtain ⟨x, y, rfl⟩ : ∃ x y, l = [x, y] := by
    have := hM.len
    match l, this with
    | [x, y], _ => exact ⟨x, y, rfl⟩
  have hx := hM.ref (r := x) (by simp)
  have hy := hM.ref (r := y) (by simp)
  have hnd := hM.nd
  have hne : y ≠ x := by simp at hnd; omega
  have htk := hM.tks
  have hnp := hM.np
  have h2 : St (RowP 36 v ([x, y].map refV) * ArenaP i A) F w1 := (h1.to (Q := RowP 36 v ([x, y].map refV) * ArenaP i A * (GroupP 36 m (outG A [x, y]) * 1)) (by simp only [SP.mul_assoc, SP.mul_left_comm, SP.mul_comm])).drop
  obtain ⟨o, cap, hv⟩ := h2.rowSlice
  have hv' : v = .slice o ([x, y] : List Nat).length cap := hv
  subst hv'
  have H2 := Lib.hid h2
  have Htk := Lib.hid htk
  clear h1 h2 hM hv Hb hnd htk
  go_wp2_with fail
  refine ((mkNew_tr i A 4 (by decide)).use (H2.out.to (SP.mul_comm _ _))).mono ?_
  rintro e w2 ⟨k, rfl, hx2⟩
  obtain ⟨⟨ha, hN, hroom⟩, h3⟩ := St.whm.1 hx2
  have HN : Hid (k.N = 32 * A.np + 1) := Lib.hid hN
  have Hka := Lib.hid ha
  have Hnp := Lib.hid hnp
  have H3 : Hid (St ((MarkP k Mk.white * ArenaP i A) * RowP 36 (.slice o ([x, y] : List Nat).length cap) ([x, y].map refV)) F w2) := Lib.hid (h3.to (by unfold Mk.white; simp only [SP.mul_assoc, SP.mul_left_comm, SP.mul_comm]))
  clear hx2 ha hN hroom hnp H2 h3
  go_wp2_with fail
  refine ((vyNew_tr k Mk.white i A Hka.out (by rw [Hnp.out]; decide) 1 (by decide) (by decide)).use H3.out).mono ?_
  rintro e w3 ⟨v, rfl, h4⟩
  obtain ⟨⟨hvm, hvN, hvr⟩, h5⟩ := St.whm.1 h4
  have Hvm := Lib.hid hvm
  have HvN := Lib.hid hvN
  have hvr' : v.room = 1 := by rw [hvr]; rfl
  have Hvr := Lib.hid hvr'
  clear h4 H3 hvm hvN hvr hvr'
  have h6 : St (VyP v Vy.none * ((MarkP k Mk.white * ArenaP i A) * RowP 36 (.slice o ([x, y] : List Nat).length cap) ([x, y].map refV))) F w3 := h5.to (SP.mul_assoc _ _ _)
  have hlk : ∀ (X : SP) W', St (X * RowP 36 (.slice o ([x, y] : List Nat).length cap) ([x, y].map refV)) F W' → ∃ g, o = some ⟨g, 0, none⟩ ∧ W'.cell? ⟨g, 0, none⟩ = some (.int .i64 x) ∧ W'.cell? ⟨g, 1, none⟩ = some (.int .i64 y) := by
    intro X W' hW
    obtain ⟨g, e, c⟩ := (hW.to (SP.mul_comm _ _)).refAt (j := 0) (r := x) rfl
    obtain ⟨_, e2, c2⟩ := (hW.to (SP.mul_comm _ _)).refAt (j := 1) (r := y) rfl
    rw [e] at e2
    cases e2
    exact ⟨g, e, c, c2⟩
  obtain ⟨g, rfl, _⟩ := hlk _ _ (h6.to (SP.mul_assoc _ _ _).symm)
  have hlk2 : ∀ (X Y : SP) W', St (X * (Y * RowP 36 (.slice (some ⟨g, 0, none⟩) ([x, y] : List Nat).length cap) ([x, y].map refV))) F W' → W'.cell? ⟨g, 0, none⟩ = some (.int .i64 x) ∧ W'.cell? ⟨g, 1, none⟩ = some (.int .i64 y) := by
    intro X Y W' hW
    obtain ⟨_, e, c⟩ := hlk _ _ (hW.to (SP.mul_assoc _ _ _).symm)
    cases e
    exact c
  have Hlk := Lib.hid hlk2
  have H6 := Lib.hid h6
  clear h5 h6 hlk hlk2
  go_wp2_with fail
  have hS := Hlk.out _ _ _ H6.out.drew
  refine wp_region_held (S := fun W' => W'.cell? ⟨g, 0, none⟩ = some (.int .i64 x) ∧ W'.cell? ⟨g, 1, none⟩ = some (.int .i64 y)) (by kernel_rfl) ?_
  refine wpAnyH_take (i := 0) (v := _) rfl (by kernel_rfl) (by kernel_rfl) (by kernel_rfl) (fun _ _ _ h => h) (.inl ⟨rfl, fun W' hW => by obtain ⟨q1, q2⟩ := hW; go_simp; rfl⟩) hS ?_
  refine wpAnyH_take (i := 1) (v := _) rfl (by kernel_rfl) (by kernel_rfl) (by kernel_rfl) (fun _ _ _ h => h) (.inl ⟨rfl, fun W' hW => by obtain ⟨q1, q2⟩ := hW; go_simp; rfl⟩) hS ?_
  refine wpAnyH_take (i := 2) (v := _) rfl (by kernel_rfl) (by kernel_rfl) (by kernel_rfl) (fun _ _ _ h => h) (.inl ⟨rfl, fun W' hW => by obtain ⟨q1, q2⟩ := hW; go_simp; rfl⟩) hS ?_
  refine wpAnyH_take (i := 3) (v := _) rfl (by kernel_rfl) (by kernel_rfl) (by kernel_rfl) (fun _ _ _ h => h) (.inl ⟨rfl, fun W' hW => by obtain ⟨q1, q2⟩ := hW; go_simp; rfl⟩) hS ?_
  refine wpAnyH_take (i := 4) (v := _) rfl (by kernel_rfl) (by kernel_rfl) (by kernel_rfl) (fun _ _ _ h => h) (.inl ⟨rfl, fun W' hW => by obtain ⟨q1, q2⟩ := hW; go_simp; rfl⟩) hS ?_
  refine wpAnyH_take (i := 5) (v := _) rfl (by kernel_rfl) (by kernel_rfl) (by kernel_rfl) (fun _ _ _ h => h) (.inl ⟨rfl, fun W' hW => by obtain ⟨q1, q2⟩ := hW; go_simp; rfl⟩) hS ?_
  refine wpAnyH_take (i := 6) (v := _) rfl (by kernel_rfl) (by kernel_rfl) (by kernel_rfl) (fun _ _ _ h => h) (.inl ⟨rfl, fun W' hW => by obtain ⟨q1, q2⟩ := hW; go_simp; rfl⟩) hS ?_
  refine wpAnyH_take (i := 7) (v := _) rfl (by kernel_rfl) (by kernel_rfl) (by kernel_rfl) (fun _ _ _ h => h) (.inl ⟨rfl, fun W' hW => by obtain ⟨q1, q2⟩ := hW; go_simp; rfl⟩) hS ?_
  refine wpAnyH_all (rs := [8]) (by kernel_rfl) (by simp) (fun q hq => ?_)
  obtain rfl : q = 8 := by simpa using hq
  clear hq
  refine wpOp_step rfl (fun K' hK' => ?_)
  go_simp
  refine ((vyPost_tr v Vy.none x 0 y false false (by rw [HvN.out]; omega) (by rw [HvN.out, Hnp.out]; exact hy.2)).use H6.out.drew).mono ?_
  clear hS
  rintro e w4 ⟨rfl, h6⟩
  refine hK' _ _ ⟨Hlk.out _ _ _ h6, ?_⟩
  clear hK' K' H6
  refine wpAnyH_done (by kernel_rfl) ?_ _
  have H6 : Hid (St (VyP v Vy.none * ((MarkP k Mk.white * ArenaP i A) * RowP 36 (.slice (some ⟨g, 0, none⟩) ([x, y] : List Nat).length cap) ([x, y].map refV))) F w4) := Lib.hid h6
  clear h6
  go_wp2_with fail
  have hS := Hlk.out _ _ _ H6.out.drew
  refine wp_region_held (S := fun W' => W'.cell? ⟨g, 0, none⟩ = some (.int .i64 x) ∧ W'.cell? ⟨g, 1, none⟩ = some (.int .i64 y)) (by kernel_rfl) ?_
  refine wpAnyH_take (i := 0) (v := _) rfl (by kernel_rfl) (by kernel_rfl) (by kernel_rfl) (fun _ _ _ h => h) (.inl ⟨rfl, fun W' hW => by obtain ⟨q1, q2⟩ := hW; go_simp; rfl⟩) hS ?_
  refine wpAnyH_take (i := 1) (v := _) rfl (by kernel_rfl) (by kernel_rfl) (by kernel_rfl) (fun _ _ _ h => h) (.inl ⟨rfl, fun W' hW => by obtain ⟨q1, q2⟩ := hW; go_simp; rfl⟩) hS ?_
  refine wpAnyH_take (i := 2) (v := _) rfl (by kernel_rfl) (by kernel_rfl) (by kernel_rfl) (fun _ _ _ h => h) (.inl ⟨rfl, fun W' hW => by obtain ⟨q1, q2⟩ := hW; go_simp; rfl⟩) hS ?_
  refine wpAnyH_take (i := 3) (v := _) rfl (by kernel_rfl) (by kernel_rfl) (by kernel_rfl) (fun _ _ _ h => h) (.inl ⟨rfl, fun W' hW => by obtain ⟨q1, q2⟩ := hW; go_simp; rfl⟩) hS ?_
  refine wpAnyH_take (i := 4) (v := _) rfl (by kernel_rfl) (by kernel_rfl) (by kernel_rfl) (fun _ _ _ h => h) (.inl ⟨rfl, fun W' hW => by obtain ⟨q1, q2⟩ := hW; go_simp; rfl⟩) hS ?_
  refine wpAnyH_take (i := 5) (v := _) rfl (by kernel_rfl) (by kernel_rfl) (by kernel_rfl) (fun _ _ _ h => h) (.inl ⟨rfl, fun W' hW => by obtain ⟨q1, q2⟩ := hW; go_simp; rfl⟩) hS ?_
  refine wpAnyH_take (i := 6) (v := _) rfl (by kernel_rfl) (by kernel_rfl) (by kernel_rfl) (fun _ _ _ h => h) (.inl ⟨rfl, fun W' hW => by obtain ⟨q1, q2⟩ := hW; go_simp; rfl⟩) hS ?_
  refine wpAnyH_take (i := 7) (v := _) rfl (by kernel_rfl) (by kernel_rfl) (by kernel_rfl) (fun _ _ _ h => h) (.inl ⟨rfl, fun W' hW => by obtain ⟨q1, q2⟩ := hW; go_simp; rfl⟩) hS ?_
  refine wpAnyH_all (rs := [8]) (by kernel_rfl) (by simp) (fun q hq => ?_)
  obtain rfl : q = 8 := by simpa using hq
  clear hq
  refine wpOp_step rfl (fun K' hK' => ?_)
  go_simp
  refine ((vyPost_tr v Vy.none x 0 x true false (by rw [HvN.out]; omega) (by rw [HvN.out, Hnp.out]; exact hx.2)).use H6.out.drew).mono ?_
  clear hS
  rintro e w5 ⟨rfl, h6⟩
  refine hK' _ _ ⟨Hlk.out _ _ _ h6, ?_⟩
  clear hK' K' H6
  refine wpAnyH_done (by kernel_rfl) ?_ _
  have hok : VyOk [x, y] (Vy.none.post v.room 0 x true) := (VyOk.none [x, y]).post v.room 0 true (.inr (by simp))
  have hV : Vy.none.post v.room 0 x true = ⟨upd (fun _ => 0) x 1, [x], false⟩ := by
    rw [Hvr.out]
    unfold Vy.post Vy.dn Vy.up Vy.none
    have hx0 : x ≠ 0 := by omega
    simp [hx0]
  rw [hV] at hok h6
  have Hlen : Hid (∀ r ∈ ([x] : List Nat), r < v.N) := Lib.hid (by intro r hr; rw [List.mem_singleton.1 hr, HvN.out, Hnp.out]; exact hx.2)
  have hmk := fun r => hok.marks A (32 * A.np + 1) Htk.out.1 Htk.out.2 k.room Mk.white r
  have hrem := (vyRemark_tr v ⟨upd (fun _ => 0) x 1, [x], false⟩ k Mk.white i A Hvm.out Hka.out HvN.out HN.out Hlen.out).use (h6.to (SP.mul_assoc _ _ _).symm)
  generalize Mk.shades k.room Mk.white (vyRs A (32 * A.np + 1) ⟨upd (fun _ => 0) x 1, [x], false⟩) = M2 at *
  have ex : M2.md x = true := by rw [(hmk x).1]; simp [upd_same]
  have ey : M2.md y = false := by rw [(hmk y).1]; simp [upd_other _ _ hne, Mk.white]
  have Hex := Lib.hid ex
  have Hey := Lib.hid ey
  have Hrem := Lib.hid hrem
  clear h6 hok hV hmk ex ey hrem Hlen
  go_wp2_with fail
  refine Hrem.out.mono ?_
  rintro e w6 ⟨rfl, h7⟩
  clear Hrem
  have h8 : St (MarkP k M2 * (VyP v ⟨upd (fun _ => 0) x 1, [x], false⟩ * RowP 36 (.slice (some ⟨g, 0, none⟩) ([x, y] : List Nat).length cap) ([x, y].map refV))) F w6 :=
    (h7.to (Q := MarkP k M2 * (VyP v ⟨upd (fun _ => 0) x 1, [x], false⟩ * RowP 36 (.slice (some ⟨g, 0, none⟩) ([x, y] : List Nat).length cap) ([x, y].map refV)) * ArenaP i A) (by simp only [SP.mul_assoc, SP.mul_left_comm, SP.mul_comm])).drop
  have H8 := Lib.hid h8
  clear h7 h8
  have ⟨c0, c1⟩ := Hlk.out _ _ _ H8.out
  go_wp2_with fail
  refine (vyRescans_any _ _).mono ?_
  rintro e w7 ⟨rfl, rfl⟩
  have Hx := Lib.hid ((marked_tr k M2 x (by rw [HN.out, Hnp.out]; exact hx.2)).use H8.out)
  rw [Hex.out] at Hx
  go_wp2_with fail
  refine Hx.out.mono ?_
  rintro e w8 ⟨rfl, h9⟩
  clear c0 c1 H8 Hx
  have ⟨c0, c1⟩ := Hlk.out _ _ _ h9
  have Hy := Lib.hid ((marked_tr k M2 y (by rw [HN.out, Hnp.out]; exact hy.2)).use h9)
  rw [Hey.out] at Hy
  clear h9
  go_wp2_with fail
  refine Hy.out.mono ?_
  rintro e w9 ⟨rfl, h9⟩
  clear c0 c1 Hy
  have ⟨c0, c1⟩ := Hlk.out _ _ _ h9
  have Hc := Lib.hid ((vyCount_tr v ⟨upd (fun _ => 0) x 1, [x], false⟩ x (by rw [HvN.out, Hnp.out]; exact hx.2)).use (h9.to (SP.mul_left_comm _ _ _)))
  dsimp only at Hc
  rw [upd_same] at Hc
  clear h9
  go_wp2_with fail
  refine Hc.out.mono ?_
  rintro e w10 ⟨rfl, h9⟩
  clear c0 c1 Hc
  have Ho := Lib.hid ((vyOver_tr v ⟨upd (fun _ => 0) x 1, [x], false⟩).use h9)
  clear h9
  go_wp2_with fail
  refine Ho.out.mono ?_
  rintro e w11 ⟨rfl, h9⟩
  clear Ho
  go_wp2_with fail
  go_ret
  exact ⟨rfl, h9.frame⟩
end Go.Proofs.Ytknmlfolbapmpaa
