import Derived.Test.YtknmlfolbapmpaaVy4
namespace Go.Proofs.Ytknmlfolbapmpaa
open Go Go.RowKit

/-- Behind n writes of y. -/
def VsUp (y room n : Nat) (V : Vy) : Prop := V.cnt y = min n 3 ∧ (∀ r, r ≠ y → V.cnt r = 0) ∧ V.over = decide (room < n) ∧ V.log.length = min n room
theorem VsUp.step {y room n : Nat} {V : Vy} (h : VsUp y room n V) (hy : y ≠ 0) : VsUp y room (n + 1) (V.post room 0 y true) := by
  obtain ⟨h1, h2, h3, h4⟩ := h
  unfold Vy.post Vy.dn Vy.up VsUp
  simp only [if_true, if_neg hy, ne_eq, not_true_eq_false, false_and, if_false]
  refine ⟨by rw [upd_same, h1]; omega, fun r hr => by rw [upd_other _ _ hr]; exact h2 r hr, ?_, ?_⟩
  · by_cases e : V.log.length < room
    · rw [if_pos e, h3, decide_eq_false (by omega), decide_eq_false (by omega)]
    · rw [if_neg e, decide_eq_true (by omega)]
  · by_cases e : V.log.length < room
    · rw [if_pos e, List.length_append]; simp; omega
    · rw [if_neg e]; omega
/-- Behind u writes of y, and n writes over it. -/
def VsDn (y room u n : Nat) (V : Vy) : Prop := V.cnt y = (if 3 ≤ u then 3 else u - n) ∧ (∀ r, r ≠ y → V.cnt r = 0) ∧ V.over = decide (room < u)
theorem VsDn.step {y room u n : Nat} {V : Vy} (h : VsDn y room u n V) (hy : y ≠ 0) (x : Nat) : VsDn y room u (n + 1) ((V.post room y 0 true).post room x 0 false) := by
  obtain ⟨h1, h2, h3⟩ := h
  unfold Vy.post Vy.dn VsDn
  simp only [if_true, Bool.false_eq_true, if_false]
  by_cases h3u : 3 ≤ u
  · rw [if_pos h3u] at h1
    rw [if_neg (by omega), if_pos h3u]
    exact ⟨h1, h2, h3⟩
  · rw [if_neg h3u] at h1
    rw [if_neg h3u]
    by_cases h0 : 0 < V.cnt y
    · rw [if_pos ⟨hy, h0, by omega⟩]
      exact ⟨by dsimp only; rw [upd_same]; omega, fun r hr => by dsimp only; rw [upd_other _ _ hr]; exact h2 r hr, h3⟩
    · rw [if_neg (fun e => h0 e.2.1)]
      exact ⟨by omega, h2, h3⟩
theorem VsUp.dn {y room u : Nat} {V : Vy} (h : VsUp y room u V) : VsDn y room u 0 V := by
  obtain ⟨h1, h2, h3, _⟩ := h
  refine ⟨?_, h2, h3⟩
  rw [h1]
  split <;> omega

set_option maxRecDepth 100000 in
set_option maxHeartbeats 40000000 in
/-- VybSaturates. -/
theorem vybSaturates (F : Fr) (up dn rm : Nat) (hup : up < 256) (hdn : dn < 256) (hrm : rm < 256) (w : World) (h : St 1 F w) : Calls Try.prog 8 #[.int .u8 (up : Int), .int .u8 (dn : Int), .int .u8 (rm : Int)] w fun e w' => e = .returned (.bool true) ∧ St 1 F w' := by
  have H := Lib.hid h
  clear h
  go_enter Try.func8, Try.ntmps8
  go_wp2_with fail
  refine (vyFit F w H.out).mono ?_
  rintro e w0 ⟨rfl, h⟩
  have hb := h.alloc (.cells #[.int .u8 2, .int .u8 2, .int .u8 2] 5)
  have Hb := Lib.hid hb
  clear hb h H
  go_wp2_with fail
  refine (made_lit [2, 2, 2] (by decide) (by decide) w0.heap.size 3 5 F _ Hb.out).mono ?_
  rintro e w1 ⟨i, A, l, v, m, hM, rfl, h1⟩
  obtain ⟨x, y, z, rfl⟩ : ∃ x y z, l = [x, y, z] := by
    have := hM.len
    match l, this with
    | [x, y, z], _ => exact ⟨x, y, z, rfl⟩
  have hx := hM.ref (r := x) (by simp)
  have hy := hM.ref (r := y) (by simp)
  have hz := hM.ref (r := z) (by simp)
  have hnd := hM.nd
  have hne : x ≠ y ∧ z ≠ y := by simp at hnd; omega
  have htk := hM.tks
  have hnp := hM.np
  have h2 : St (RowP 36 v ([x, y, z].map refV) * ArenaP i A) F w1 := (h1.to (Q := RowP 36 v ([x, y, z].map refV) * ArenaP i A * (GroupP 36 m (outG A [x, y, z]) * 1)) (by simp only [SP.mul_assoc, SP.mul_left_comm, SP.mul_comm])).drop
  obtain ⟨o, cap, hv⟩ := h2.rowSlice
  have hv' : v = .slice o ([x, y, z] : List Nat).length cap := hv
  subst hv'
  have H2 := Lib.hid h2
  have Htk := Lib.hid htk
  clear h1 h2 hM hv Hb hnd htk
  go_wp2_with fail
  refine ((mkNew_tr i A 4 (by decide)).use (H2.out.to (SP.mul_comm _ _))).mono ?_
  rintro e w2 ⟨k, rfl, hx2⟩
  obtain ⟨⟨ha, hN, hroom⟩, h3⟩ := St.whm.1 hx2
  have HN : Hid (k.N = 32 * A.np + 1) := Lib.hid hN
  have Hka := Lib.hid ha
  have Hnp := Lib.hid hnp
  have H3 : Hid (St ((MarkP k Mk.white * ArenaP i A) * RowP 36 (.slice o ([x, y, z] : List Nat).length cap) ([x, y, z].map refV)) F w2) := Lib.hid (h3.to (by unfold Mk.white; simp only [SP.mul_assoc, SP.mul_left_comm, SP.mul_comm]))
  clear hx2 ha hN hroom hnp H2 h3
  have hr1 : Int.tmod (rm : Int) 8 = ((rm % 8 : Nat) : Int) := by rw [Int.tmod_eq_emod_of_nonneg (by omega)]; omega
  have hu1 : Int.tmod (up : Int) 6 = ((up % 6 : Nat) : Int) := by rw [Int.tmod_eq_emod_of_nonneg (by omega)]; omega
  have hd1 : Int.tmod (dn : Int) 8 = ((dn % 8 : Nat) : Int) := by rw [Int.tmod_eq_emod_of_nonneg (by omega)]; omega
  have hr8 : rm % 8 < 8 := Nat.mod_lt _ (by decide)
  have hu6 : up % 6 < 6 := Nat.mod_lt _ (by decide)
  have hd8 : dn % 8 < 8 := Nat.mod_lt _ (by decide)
  generalize rm % 8 = room at *
  generalize up % 6 = u at *
  generalize dn % 8 = d at *
  have hr2 : IntKind.u8.wrap (room : Int) = room := by rw [IntKind.wrap_u8]; omega
  have hu2 : IntKind.u8.wrap (u : Int) = u := by rw [IntKind.wrap_u8]; omega
  have hd2 : IntKind.u8.wrap (d : Int) = d := by rw [IntKind.wrap_u8]; omega
  have hr3 : IntKind.i64.wrap (room : Int) = room := by rw [IntKind.wrap_i64]; omega
  have hu3 : IntKind.i64.wrap (u : Int) = u := by rw [IntKind.wrap_i64]; omega
  have hd3 : IntKind.i64.wrap (d : Int) = d := by rw [IntKind.wrap_i64]; omega
  go_wp2_with fail
  refine ((vyNew_tr k Mk.white i A Hka.out (by rw [Hnp.out]; decide) (room : Int) (by omega) (by omega)).use H3.out).mono ?_
  rintro e w3 ⟨v, rfl, h4⟩
  obtain ⟨⟨hvm, hvN, hvr⟩, h5⟩ := St.whm.1 h4
  have Hvm := Lib.hid hvm
  have HvN := Lib.hid hvN
  have hvr' : v.room = room := by rw [hvr, Int.toNat_natCast]
  have Hvr := Lib.hid hvr'
  clear h4 H3 hvm hvN hvr hvr'
  have h6 : St (VyP v Vy.none * ((MarkP k Mk.white * ArenaP i A) * RowP 36 (.slice o ([x, y, z] : List Nat).length cap) ([x, y, z].map refV))) F w3 := h5.to (SP.mul_assoc _ _ _)
  obtain ⟨g, rfl, _⟩ := (h6.to (SP.l3 _ _ _)).ref3
  have hlk2 : ∀ (X Y : SP) W', St (X * (Y * RowP 36 (.slice (some ⟨g, 0, none⟩) ([x, y, z] : List Nat).length cap) ([x, y, z].map refV))) F W' → W'.cell? ⟨g, 0, none⟩ = some (.int .i64 x) ∧ W'.cell? ⟨g, 1, none⟩ = some (.int .i64 y) ∧ W'.cell? ⟨g, 2, none⟩ = some (.int .i64 z) := by
    intro X Y W' hW
    obtain ⟨_, e, c⟩ := (hW.to (SP.l3 _ _ _)).ref3
    cases e
    exact c
  have Hlk := Lib.hid hlk2
  clear h5 hlk2
  have Hlt : Hid (x < v.N ∧ y < v.N ∧ z < v.N ∧ 0 < v.N) := Lib.hid (by rw [HvN.out, Hnp.out]; exact ⟨hx.2, hy.2, hz.2, by decide⟩)
  have Hne := Lib.hid hne
  have Hy0 : Hid (y ≠ 0) := Lib.hid (by omega)
  have Hltk : Hid (x < k.N ∧ y < k.N ∧ z < k.N) := Lib.hid (by rw [HN.out, Hnp.out]; exact ⟨hx.2, hy.2, hz.2⟩)
  clear hx hy hz hne
  go_wp2_with fail
  go_loopg [41] u (fun q s wr => ∃ (n : Nat) (V : Vy), n ≤ u ∧ q = u - n ∧ s = .int .i64 n ∧ VsUp y room n V ∧ VyOk [x, y, z] V ∧ St (VyP v V * ((MarkP k Mk.white * ArenaP i A) * RowP 36 (.slice (some ⟨g, 0, none⟩) ([x, y, z] : List Nat).length cap) ([x, y, z].map refV))) F wr)
  case atStart => exact ⟨0, Vy.none, Nat.zero_le _, rfl, rfl, ⟨rfl, fun _ _ => rfl, by simp [Vy.none], by simp [Vy.none]⟩, VyOk.none _, h6⟩
  case round =>
    clear h6
    obtain ⟨n, V, hn, hg, rfl, hup', hok, hst⟩ := hrel
    have Hg := Lib.hid hg
    have Hup := Lib.hid hup'
    have Hok := Lib.hid hok
    have Hst := Lib.hid hst
    clear hg hup' hok hst
    by_cases hlt : n < u
    · have hlt' : (n : Int) < u := by omega
      have hw4 : IntKind.i64.wrap ((n : Int) + 1) = ((n + 1 : Nat) : Int) := by rw [IntKind.wrap_i64]; omega
      have hn0 : 0 ≤ (n : Int) := by omega
      go_wp2_with fail
      have hS := Hlk.out _ _ _ Hst.out.drew
      refine wp_region_held (S := fun W' => W'.cell? ⟨g, 0, none⟩ = some (.int .i64 x) ∧ W'.cell? ⟨g, 1, none⟩ = some (.int .i64 y) ∧ W'.cell? ⟨g, 2, none⟩ = some (.int .i64 z)) (by kernel_rfl) ?_
      refine wpAnyH_take (i := 0) (v := _) rfl (by kernel_rfl) (by kernel_rfl) (by kernel_rfl) (fun _ _ _ h => h) (.inl ⟨rfl, fun W' hW => by obtain ⟨q1, q2, q3⟩ := hW; go_simp; rfl⟩) hS ?_
      refine wpAnyH_take (i := 1) (v := _) rfl (by kernel_rfl) (by kernel_rfl) (by kernel_rfl) (fun _ _ _ h => h) (.inl ⟨rfl, fun W' hW => by obtain ⟨q1, q2, q3⟩ := hW; go_simp; rfl⟩) hS ?_
      refine wpAnyH_take (i := 2) (v := _) rfl (by kernel_rfl) (by kernel_rfl) (by kernel_rfl) (fun _ _ _ h => h) (.inl ⟨rfl, fun W' hW => by obtain ⟨q1, q2, q3⟩ := hW; go_simp; rfl⟩) hS ?_
      refine wpAnyH_take (i := 3) (v := _) rfl (by kernel_rfl) (by kernel_rfl) (by kernel_rfl) (fun _ _ _ h => h) (.inl ⟨rfl, fun W' hW => by obtain ⟨q1, q2, q3⟩ := hW; go_simp; rfl⟩) hS ?_
      refine wpAnyH_take (i := 4) (v := _) rfl (by kernel_rfl) (by kernel_rfl) (by kernel_rfl) (fun _ _ _ h => h) (.inl ⟨rfl, fun W' hW => by obtain ⟨q1, q2, q3⟩ := hW; go_simp; rfl⟩) hS ?_
      refine wpAnyH_take (i := 5) (v := _) rfl (by kernel_rfl) (by kernel_rfl) (by kernel_rfl) (fun _ _ _ h => h) (.inl ⟨rfl, fun W' hW => by obtain ⟨q1, q2, q3⟩ := hW; go_simp; rfl⟩) hS ?_
      refine wpAnyH_take (i := 6) (v := _) rfl (by kernel_rfl) (by kernel_rfl) (by kernel_rfl) (fun _ _ _ h => h) (.inl ⟨rfl, fun W' hW => by obtain ⟨q1, q2, q3⟩ := hW; go_simp; rfl⟩) hS ?_
      refine wpAnyH_take (i := 7) (v := _) rfl (by kernel_rfl) (by kernel_rfl) (by kernel_rfl) (fun _ _ _ h => h) (.inl ⟨rfl, fun W' hW => by obtain ⟨q1, q2, q3⟩ := hW; go_simp; rfl⟩) hS ?_
      refine wpAnyH_all (rs := [8]) (by kernel_rfl) (by simp) (fun q hq => ?_)
      obtain rfl : q = 8 := by simpa using hq
      clear hq
      refine wpOp_step rfl (fun K' hK' => ?_)
      go_simp
      refine ((vyPost_tr v V x 0 y true false Hlt.out.2.2.2 Hlt.out.2.1).use Hst.out.drew).mono ?_
      clear hS
      rintro e w4 ⟨rfl, h6⟩
      refine hK' _ _ ⟨Hlk.out _ _ _ h6, ?_⟩
      clear hK' K'
      refine wpAnyH_done (by kernel_rfl) ?_ _
      have H6 := Lib.hid h6
      clear h6
      go_wp2_with fail
      go_roundg (u - (n + 1))
      case measure => have := Hg.out; omega
      case rel => exact ⟨n + 1, _, by omega, rfl, by go_num, by have := Hup.out.step Hy0.out; rw [← Hvr.out] at this ⊢; exact this, Hok.out.post _ _ _ (.inr (by simp)), H6.out⟩
    · obtain rfl : n = u := by omega
      have Hdn := Lib.hid Hup.out.dn
      clear Hup Hg
      have h7 := Hst.out
      clear Hst
      go_wp2_with fail
      go_loopg [54] d (fun q s wr => ∃ (p : Nat) (V : Vy), p ≤ d ∧ q = d - p ∧ s = .int .i64 p ∧ VsDn y room n p V ∧ VyOk [x, y, z] V ∧ St (VyP v V * ((MarkP k Mk.white * ArenaP i A) * RowP 36 (.slice (some ⟨g, 0, none⟩) ([x, y, z] : List Nat).length cap) ([x, y, z].map refV))) F wr)
      case atStart => exact ⟨0, V, Nat.zero_le _, rfl, rfl, Hdn.out, Hok.out, h7⟩
      case round =>
        clear h7 Hdn Hok
        obtain ⟨p, V, hp, hg, rfl, hdn', hok, hst⟩ := hrel
        have Hg := Lib.hid hg
        have Hdn := Lib.hid hdn'
        have Hok := Lib.hid hok
        have Hst := Lib.hid hst
        clear hg hdn' hok hst
        by_cases hlp : p < d
        · have hlp' : (p : Int) < d := by omega
          have hw5 : IntKind.i64.wrap ((p : Int) + 1) = ((p + 1 : Nat) : Int) := by rw [IntKind.wrap_i64]; omega
          have hp0 : 0 ≤ (p : Int) := by omega
          go_wp2_with fail
          have hS := Hlk.out _ _ _ Hst.out.drew
          refine wp_region_held (S := fun W' => W'.cell? ⟨g, 0, none⟩ = some (.int .i64 x) ∧ W'.cell? ⟨g, 1, none⟩ = some (.int .i64 y) ∧ W'.cell? ⟨g, 2, none⟩ = some (.int .i64 z)) (by kernel_rfl) ?_
          refine wpAnyH_take (i := 0) (v := _) rfl (by kernel_rfl) (by kernel_rfl) (by kernel_rfl) (fun _ _ _ h => h) (.inl ⟨rfl, fun W' hW => by obtain ⟨q1, q2, q3⟩ := hW; go_simp; rfl⟩) hS ?_
          refine wpAnyH_take (i := 1) (v := _) rfl (by kernel_rfl) (by kernel_rfl) (by kernel_rfl) (fun _ _ _ h => h) (.inl ⟨rfl, fun W' hW => by obtain ⟨q1, q2, q3⟩ := hW; go_simp; rfl⟩) hS ?_
          refine wpAnyH_take (i := 2) (v := _) rfl (by kernel_rfl) (by kernel_rfl) (by kernel_rfl) (fun _ _ _ h => h) (.inl ⟨rfl, fun W' hW => by obtain ⟨q1, q2, q3⟩ := hW; go_simp; rfl⟩) hS ?_
          refine wpAnyH_take (i := 3) (v := _) rfl (by kernel_rfl) (by kernel_rfl) (by kernel_rfl) (fun _ _ _ h => h) (.inl ⟨rfl, fun W' hW => by obtain ⟨q1, q2, q3⟩ := hW; go_simp; rfl⟩) hS ?_
          refine wpAnyH_take (i := 4) (v := _) rfl (by kernel_rfl) (by kernel_rfl) (by kernel_rfl) (fun _ _ _ h => h) (.inl ⟨rfl, fun W' hW => by obtain ⟨q1, q2, q3⟩ := hW; go_simp; rfl⟩) hS ?_
          refine wpAnyH_take (i := 5) (v := _) rfl (by kernel_rfl) (by kernel_rfl) (by kernel_rfl) (fun _ _ _ h => h) (.inl ⟨rfl, fun W' hW => by obtain ⟨q1, q2, q3⟩ := hW; go_simp; rfl⟩) hS ?_
          refine wpAnyH_take (i := 6) (v := _) rfl (by kernel_rfl) (by kernel_rfl) (by kernel_rfl) (fun _ _ _ h => h) (.inl ⟨rfl, fun W' hW => by obtain ⟨q1, q2, q3⟩ := hW; go_simp; rfl⟩) hS ?_
          refine wpAnyH_take (i := 7) (v := _) rfl (by kernel_rfl) (by kernel_rfl) (by kernel_rfl) (fun _ _ _ h => h) (.inl ⟨rfl, fun W' hW => by obtain ⟨q1, q2, q3⟩ := hW; go_simp; rfl⟩) hS ?_
          refine wpAnyH_all (rs := [8]) (by kernel_rfl) (by simp) (fun q hq => ?_)
          obtain rfl : q = 8 := by simpa using hq
          clear hq
          refine wpOp_step rfl (fun K' hK' => ?_)
          go_simp
          refine ((vyPost_tr v V x y 0 true false Hlt.out.2.1 Hlt.out.2.2.2).use Hst.out.drew).mono ?_
          clear hS
          rintro e w4 ⟨rfl, h6⟩
          refine hK' _ _ ⟨Hlk.out _ _ _ h6, ?_⟩
          clear hK' K'
          refine wpAnyH_done (by kernel_rfl) ?_ _
          have H6 := Lib.hid h6
          clear h6
          go_wp2_with fail
          have hS := Hlk.out _ _ _ H6.out.drew
          refine wp_region_held (S := fun W' => W'.cell? ⟨g, 0, none⟩ = some (.int .i64 x) ∧ W'.cell? ⟨g, 1, none⟩ = some (.int .i64 y) ∧ W'.cell? ⟨g, 2, none⟩ = some (.int .i64 z)) (by kernel_rfl) ?_
          refine wpAnyH_take (i := 0) (v := _) rfl (by kernel_rfl) (by kernel_rfl) (by kernel_rfl) (fun _ _ _ h => h) (.inl ⟨rfl, fun W' hW => by obtain ⟨q1, q2, q3⟩ := hW; go_simp; rfl⟩) hS ?_
          refine wpAnyH_take (i := 1) (v := _) rfl (by kernel_rfl) (by kernel_rfl) (by kernel_rfl) (fun _ _ _ h => h) (.inl ⟨rfl, fun W' hW => by obtain ⟨q1, q2, q3⟩ := hW; go_simp; rfl⟩) hS ?_
          refine wpAnyH_take (i := 2) (v := _) rfl (by kernel_rfl) (by kernel_rfl) (by kernel_rfl) (fun _ _ _ h => h) (.inl ⟨rfl, fun W' hW => by obtain ⟨q1, q2, q3⟩ := hW; go_simp; rfl⟩) hS ?_
          refine wpAnyH_take (i := 3) (v := _) rfl (by kernel_rfl) (by kernel_rfl) (by kernel_rfl) (fun _ _ _ h => h) (.inl ⟨rfl, fun W' hW => by obtain ⟨q1, q2, q3⟩ := hW; go_simp; rfl⟩) hS ?_
          refine wpAnyH_take (i := 4) (v := _) rfl (by kernel_rfl) (by kernel_rfl) (by kernel_rfl) (fun _ _ _ h => h) (.inl ⟨rfl, fun W' hW => by obtain ⟨q1, q2, q3⟩ := hW; go_simp; rfl⟩) hS ?_
          refine wpAnyH_take (i := 5) (v := _) rfl (by kernel_rfl) (by kernel_rfl) (by kernel_rfl) (fun _ _ _ h => h) (.inl ⟨rfl, fun W' hW => by obtain ⟨q1, q2, q3⟩ := hW; go_simp; rfl⟩) hS ?_
          refine wpAnyH_take (i := 6) (v := _) rfl (by kernel_rfl) (by kernel_rfl) (by kernel_rfl) (fun _ _ _ h => h) (.inl ⟨rfl, fun W' hW => by obtain ⟨q1, q2, q3⟩ := hW; go_simp; rfl⟩) hS ?_
          refine wpAnyH_take (i := 7) (v := _) rfl (by kernel_rfl) (by kernel_rfl) (by kernel_rfl) (fun _ _ _ h => h) (.inl ⟨rfl, fun W' hW => by obtain ⟨q1, q2, q3⟩ := hW; go_simp; rfl⟩) hS ?_
          refine wpAnyH_all (rs := [8]) (by kernel_rfl) (by simp) (fun q hq => ?_)
          obtain rfl : q = 8 := by simpa using hq
          clear hq
          refine wpOp_step rfl (fun K' hK' => ?_)
          go_simp
          refine ((vyPost_tr v (V.post v.room y 0 true) x y 0 false false Hlt.out.2.1 Hlt.out.2.2.2).use H6.out.drew).mono ?_
          clear hS
          rintro e w5 ⟨rfl, h7⟩
          refine hK' _ _ ⟨Hlk.out _ _ _ h7, ?_⟩
          clear hK' K'
          refine wpAnyH_done (by kernel_rfl) ?_ _
          have H7 := Lib.hid h7
          clear h7
          go_wp2_with fail
          go_roundg (d - (p + 1))
          case measure => have := Hg.out; omega
          case rel => exact ⟨p + 1, _, by omega, rfl, by go_num, by have := Hdn.out.step Hy0.out y; rw [← Hvr.out] at this ⊢; exact this, (Hok.out.post _ _ _ (.inl rfl)).post _ _ _ (.inl rfl), H7.out⟩
        · obtain rfl : p = d := by omega
          have hsub : IntKind.i64.wrap ((n : Int) - p) = (n : Int) - p := by rw [IntKind.wrap_i64]; omega
          obtain ⟨e1, e2, e3⟩ := Hdn.out
          have hok := Hok.out
          have hmk := fun r => hok.marks A (32 * A.np + 1) Htk.out.1 Htk.out.2 k.room Mk.white r
          have Hlog : Hid (∀ r ∈ V.log, r < v.N) := Lib.hid (by intro r hr; have := hok.log r hr; have := Hlt.out; simp at *; omega)
          have hrem := fun W (hW : St (VyP v V * ((MarkP k Mk.white * ArenaP i A) * RowP 36 (.slice (some ⟨g, 0, none⟩) ([x, y, z] : List Nat).length cap) ([x, y, z].map refV))) F W) => (vyRemark_tr v V k Mk.white i A Hvm.out Hka.out HvN.out HN.out Hlog.out).use (hW.to (SP.mul_assoc _ _ _).symm)
          generalize Mk.shades k.room Mk.white (vyRs A (32 * A.np + 1) V) = M2 at *
          have hmx : M2.md x = false := by rw [(hmk x).1, e2 x Hne.out.1]; rfl
          have hmz : M2.md z = false := by rw [(hmk z).1, e2 z Hne.out.2]; rfl
          have hmy : M2.md y = decide (0 < V.cnt y) := by rw [(hmk y).1]; rfl
          have ez := e2 z Hne.out.2
          have eo : V.over = decide ((room : Int) < n) := by rw [e3]; congr 1; simp
          have Hrem := Lib.hid hrem
          have Hmx := Lib.hid hmx
          have Hmy := Lib.hid hmy
          have Hmz := Lib.hid hmz
          have Hez := Lib.hid ez
          have Heo := Lib.hid eo
          have Hcy := Lib.hid e1
          clear hok hmk Hlog hrem hmx hmy hmz ez eo e1 e2 e3 Hok Hdn Hg
          by_cases h3 : 3 ≤ n
          · have h3' : (3 : Int) ≤ n := by omega
            have Hcy2 : Hid (((V.cnt y : Nat) : Int) = 3) := Lib.hid (by rw [Hcy.out, if_pos h3]; rfl)
            have Hmy2 : Hid (M2.md y = true) := Lib.hid (by rw [Hmy.out, Hcy.out, if_pos h3]; rfl)
            clear Hcy Hmy h3
            by_cases hud : p < n
            · have hud' : (0 : Int) < (n : Int) - p := by omega
              have ⟨a0, a1, a2⟩ := Hlk.out _ _ _ Hst.out
              have Hc := Lib.hid ((vyCount_tr v V y Hlt.out.2.1).use Hst.out)
              rw [Hcy2.out] at Hc
              go_wp2_with fail
              refine Hc.out.mono ?_
              rintro e w6 ⟨rfl, h8⟩
              clear a0 a1 a2 Hc Hst
              have ⟨a0, a1, a2⟩ := Hlk.out _ _ _ h8
              have Hc := Lib.hid ((vyCount_tr v V z Hlt.out.2.2.1).use h8)
              rw [Hez.out] at Hc
              clear h8
              go_wp2_with fail
              refine Hc.out.mono ?_
              rintro e w7 ⟨rfl, h8⟩
              clear a0 a1 a2 Hc
              have Hc := Lib.hid ((vyOver_tr v V).use h8)
              rw [Heo.out] at Hc
              clear h8
              go_wp2_with fail
              refine Hc.out.mono ?_
              rintro e w8 ⟨rfl, h8⟩
              clear Hc
              have Hc := Lib.hid (Hrem.out _ h8)
              clear h8
              go_wp2_with fail
              refine Hc.out.mono ?_
              rintro e w9 ⟨rfl, h8⟩
              have H9 : Hid (St (MarkP k M2 * ((VyP v V * ArenaP i A) * RowP 36 (.slice (some ⟨g, 0, none⟩) ([x, y, z] : List Nat).length cap) ([x, y, z].map refV))) F w9) := Lib.hid (h8.to (by simp only [SP.mul_assoc, SP.mul_left_comm, SP.mul_comm]))
              clear h8 Hc
              have ⟨a0, a1, a2⟩ := Hlk.out _ _ _ H9.out
              have Hc := Lib.hid ((marked_tr k M2 y Hltk.out.2.1).use H9.out)
              rw [Hmy2.out] at Hc
              go_wp2_with fail
              refine Hc.out.mono ?_
              rintro e w10 ⟨rfl, h8⟩
              clear a0 a1 a2 Hc H9
              have ⟨a0, a1, a2⟩ := Hlk.out _ _ _ h8
              have Hc := Lib.hid ((marked_tr k M2 x Hltk.out.1).use h8)
              rw [Hmx.out] at Hc
              clear h8
              go_wp2_with fail
              refine Hc.out.mono ?_
              rintro e w11 ⟨rfl, h8⟩
              clear a0 a1 a2 Hc
              have ⟨a0, a1, a2⟩ := Hlk.out _ _ _ h8
              have Hc := Lib.hid ((marked_tr k M2 z Hltk.out.2.2).use h8)
              rw [Hmz.out] at Hc
              clear h8
              go_wp2_with fail
              refine Hc.out.mono ?_
              rintro e w12 ⟨rfl, h8⟩
              clear a0 a1 a2 Hc
              go_wp2_with fail
              go_ret
              exact ⟨rfl, h8.frame⟩
            · have hud' : ¬ (0 : Int) < (n : Int) - p := by omega
              have ⟨a0, a1, a2⟩ := Hlk.out _ _ _ Hst.out
              have Hc := Lib.hid ((vyCount_tr v V y Hlt.out.2.1).use Hst.out)
              rw [Hcy2.out] at Hc
              go_wp2_with fail
              refine Hc.out.mono ?_
              rintro e w6 ⟨rfl, h8⟩
              clear a0 a1 a2 Hc Hst
              have ⟨a0, a1, a2⟩ := Hlk.out _ _ _ h8
              have Hc := Lib.hid ((vyCount_tr v V z Hlt.out.2.2.1).use h8)
              rw [Hez.out] at Hc
              clear h8
              go_wp2_with fail
              refine Hc.out.mono ?_
              rintro e w7 ⟨rfl, h8⟩
              clear a0 a1 a2 Hc
              have Hc := Lib.hid ((vyOver_tr v V).use h8)
              rw [Heo.out] at Hc
              clear h8
              go_wp2_with fail
              refine Hc.out.mono ?_
              rintro e w8 ⟨rfl, h8⟩
              clear Hc
              have Hc := Lib.hid (Hrem.out _ h8)
              clear h8
              go_wp2_with fail
              refine Hc.out.mono ?_
              rintro e w9 ⟨rfl, h8⟩
              have H9 : Hid (St (MarkP k M2 * ((VyP v V * ArenaP i A) * RowP 36 (.slice (some ⟨g, 0, none⟩) ([x, y, z] : List Nat).length cap) ([x, y, z].map refV))) F w9) := Lib.hid (h8.to (by simp only [SP.mul_assoc, SP.mul_left_comm, SP.mul_comm]))
              clear h8 Hc
              have ⟨a0, a1, a2⟩ := Hlk.out _ _ _ H9.out
              have Hc := Lib.hid ((marked_tr k M2 y Hltk.out.2.1).use H9.out)
              rw [Hmy2.out] at Hc
              go_wp2_with fail
              refine Hc.out.mono ?_
              rintro e w10 ⟨rfl, h8⟩
              clear a0 a1 a2 Hc H9
              have ⟨a0, a1, a2⟩ := Hlk.out _ _ _ h8
              have Hc := Lib.hid ((marked_tr k M2 x Hltk.out.1).use h8)
              rw [Hmx.out] at Hc
              clear h8
              go_wp2_with fail
              refine Hc.out.mono ?_
              rintro e w11 ⟨rfl, h8⟩
              clear a0 a1 a2 Hc
              have ⟨a0, a1, a2⟩ := Hlk.out _ _ _ h8
              have Hc := Lib.hid ((marked_tr k M2 z Hltk.out.2.2).use h8)
              rw [Hmz.out] at Hc
              clear h8
              go_wp2_with fail
              refine Hc.out.mono ?_
              rintro e w12 ⟨rfl, h8⟩
              clear a0 a1 a2 Hc
              go_wp2_with fail
              go_ret
              exact ⟨rfl, h8.frame⟩
          · have h3' : ¬ (3 : Int) ≤ n := by omega
            by_cases hud : p < n
            · have hud' : (0 : Int) < (n : Int) - p := by omega
              have Hcy2 : Hid (((V.cnt y : Nat) : Int) = (n : Int) - p) := Lib.hid (by rw [Hcy.out, if_neg h3]; omega)
              have Hmy2 : Hid (M2.md y = true) := Lib.hid (by rw [Hmy.out, Hcy.out, if_neg h3]; simp; omega)
              clear Hcy Hmy h3
              have ⟨a0, a1, a2⟩ := Hlk.out _ _ _ Hst.out
              have Hc := Lib.hid ((vyCount_tr v V y Hlt.out.2.1).use Hst.out)
              rw [Hcy2.out] at Hc
              go_wp2_with fail
              refine Hc.out.mono ?_
              rintro e w6 ⟨rfl, h8⟩
              clear a0 a1 a2 Hc Hst
              have ⟨a0, a1, a2⟩ := Hlk.out _ _ _ h8
              have Hc := Lib.hid ((vyCount_tr v V z Hlt.out.2.2.1).use h8)
              rw [Hez.out] at Hc
              clear h8
              go_wp2_with fail
              refine Hc.out.mono ?_
              rintro e w7 ⟨rfl, h8⟩
              clear a0 a1 a2 Hc
              have Hc := Lib.hid ((vyOver_tr v V).use h8)
              rw [Heo.out] at Hc
              clear h8
              go_wp2_with fail
              refine Hc.out.mono ?_
              rintro e w8 ⟨rfl, h8⟩
              clear Hc
              have Hc := Lib.hid (Hrem.out _ h8)
              clear h8
              go_wp2_with fail
              refine Hc.out.mono ?_
              rintro e w9 ⟨rfl, h8⟩
              have H9 : Hid (St (MarkP k M2 * ((VyP v V * ArenaP i A) * RowP 36 (.slice (some ⟨g, 0, none⟩) ([x, y, z] : List Nat).length cap) ([x, y, z].map refV))) F w9) := Lib.hid (h8.to (by simp only [SP.mul_assoc, SP.mul_left_comm, SP.mul_comm]))
              clear h8 Hc
              have ⟨a0, a1, a2⟩ := Hlk.out _ _ _ H9.out
              have Hc := Lib.hid ((marked_tr k M2 y Hltk.out.2.1).use H9.out)
              rw [Hmy2.out] at Hc
              go_wp2_with fail
              refine Hc.out.mono ?_
              rintro e w10 ⟨rfl, h8⟩
              clear a0 a1 a2 Hc H9
              have ⟨a0, a1, a2⟩ := Hlk.out _ _ _ h8
              have Hc := Lib.hid ((marked_tr k M2 x Hltk.out.1).use h8)
              rw [Hmx.out] at Hc
              clear h8
              go_wp2_with fail
              refine Hc.out.mono ?_
              rintro e w11 ⟨rfl, h8⟩
              clear a0 a1 a2 Hc
              have ⟨a0, a1, a2⟩ := Hlk.out _ _ _ h8
              have Hc := Lib.hid ((marked_tr k M2 z Hltk.out.2.2).use h8)
              rw [Hmz.out] at Hc
              clear h8
              go_wp2_with fail
              refine Hc.out.mono ?_
              rintro e w12 ⟨rfl, h8⟩
              clear a0 a1 a2 Hc
              go_wp2_with fail
              go_ret
              exact ⟨rfl, h8.frame⟩
            · have hud' : ¬ (0 : Int) < (n : Int) - p := by omega
              have Hcy2 : Hid (((V.cnt y : Nat) : Int) = 0) := Lib.hid (by rw [Hcy.out, if_neg h3]; omega)
              have Hmy2 : Hid (M2.md y = false) := Lib.hid (by rw [Hmy.out, Hcy.out, if_neg h3]; simp; omega)
              clear Hcy Hmy h3
              have ⟨a0, a1, a2⟩ := Hlk.out _ _ _ Hst.out
              have Hc := Lib.hid ((vyCount_tr v V y Hlt.out.2.1).use Hst.out)
              rw [Hcy2.out] at Hc
              go_wp2_with fail
              refine Hc.out.mono ?_
              rintro e w6 ⟨rfl, h8⟩
              clear a0 a1 a2 Hc Hst
              have ⟨a0, a1, a2⟩ := Hlk.out _ _ _ h8
              have Hc := Lib.hid ((vyCount_tr v V z Hlt.out.2.2.1).use h8)
              rw [Hez.out] at Hc
              clear h8
              go_wp2_with fail
              refine Hc.out.mono ?_
              rintro e w7 ⟨rfl, h8⟩
              clear a0 a1 a2 Hc
              have Hc := Lib.hid ((vyOver_tr v V).use h8)
              rw [Heo.out] at Hc
              clear h8
              go_wp2_with fail
              refine Hc.out.mono ?_
              rintro e w8 ⟨rfl, h8⟩
              clear Hc
              have Hc := Lib.hid (Hrem.out _ h8)
              clear h8
              go_wp2_with fail
              refine Hc.out.mono ?_
              rintro e w9 ⟨rfl, h8⟩
              have H9 : Hid (St (MarkP k M2 * ((VyP v V * ArenaP i A) * RowP 36 (.slice (some ⟨g, 0, none⟩) ([x, y, z] : List Nat).length cap) ([x, y, z].map refV))) F w9) := Lib.hid (h8.to (by simp only [SP.mul_assoc, SP.mul_left_comm, SP.mul_comm]))
              clear h8 Hc
              have ⟨a0, a1, a2⟩ := Hlk.out _ _ _ H9.out
              have Hc := Lib.hid ((marked_tr k M2 y Hltk.out.2.1).use H9.out)
              rw [Hmy2.out] at Hc
              go_wp2_with fail
              refine Hc.out.mono ?_
              rintro e w10 ⟨rfl, h8⟩
              clear a0 a1 a2 Hc H9
              have ⟨a0, a1, a2⟩ := Hlk.out _ _ _ h8
              have Hc := Lib.hid ((marked_tr k M2 x Hltk.out.1).use h8)
              rw [Hmx.out] at Hc
              clear h8
              go_wp2_with fail
              refine Hc.out.mono ?_
              rintro e w11 ⟨rfl, h8⟩
              clear a0 a1 a2 Hc
              have ⟨a0, a1, a2⟩ := Hlk.out _ _ _ h8
              have Hc := Lib.hid ((marked_tr k M2 z Hltk.out.2.2).use h8)
              rw [Hmz.out] at Hc
              clear h8
              go_wp2_with fail
              refine Hc.out.mono ?_
              rintro e w12 ⟨rfl, h8⟩
              clear a0 a1 a2 Hc
              go_wp2_with fail
              go_ret
              exact ⟨rfl, h8.frame⟩
end Go.Proofs.Ytknmlfolbapmpaa
