import Derived.Test.YtknmlfolbapmpaaYr
import Derived.Test.YtknmlfolbapmpaaDr
import Derived.Test.YtknmlfolbapmpaaDrain
namespace Go.Proofs.Ytknmlfolbapmpaa
open Go Go.RowKit

theorem popw_white (n : Nat) : setCount Mk.white.md n = 0 := popw_none _ (fun _ => rfl) _
theorem drained_white (n : Nat) : drainedB n Mk.white = true := drainedB_true (fun _ _ h => by cases h)
set_option maxRecDepth 100000 in
set_option maxHeartbeats 40000000 in
/-- DijkstraNone: what is written over, and nothing that is written, is not shaded. -/
theorem dijkstraNone (F : Fr) (v1 v2 v_ws : Value) (fs : List Nat) (es : List (Nat × Nat × Nat)) (ws : List (Nat × Nat)) (h1 : InBytes F v1 fs) (h2 : InTriples F v2 es) (h_ws : InPairs F v_ws ws)
    (w : World) (h : St 1 F w) : Calls Try.prog 11 #[.agg #[v1, v2], v_ws] w fun e w' => e = .returned (.bool true) ∧ St 1 F w' := by
  obtain ⟨o1, c1, rfl, H1⟩ := id h1
  obtain ⟨o2, c2, rfl, H2⟩ := id h2
  obtain ⟨o_ws, c_ws, rfl, h_ws⟩ := h_ws
  clear H1 H2
  have H1 := Lib.hid h1
  have H2 := Lib.hid h2
  have H_ws := Lib.hid h_ws
  clear h1 h2 h_ws
  have hb := h.mul1.alloc (.cells #[.slice o1 fs.length c1, .slice o2 es.length c2] 25)
  have Hb := Lib.hid hb
  clear h hb
  go_enter Try.func11, Try.ntmps11
  go_wp2_with fail
  refine (djFit.use (Hb.out.mul1.to (SP.mul_comm _ _))).mono ?_
  rintro e w1 ⟨rfl, h5⟩
  have h6 : St (pts w.heap.size (.cells #[.slice o1 fs.length c1, .slice o2 es.length c2] 25 (0, 0)) * 1) F w1 := h5.to (by simp only [SP.one_mul, SP.mul_one])
  have cg0 : w1.cell? ⟨w.heap.size, 0, none⟩ = some (.slice o1 fs.length c1) := by rw [cell_of h6.at]; rfl
  have cg1 : w1.cell? ⟨w.heap.size, 1, none⟩ = some (.slice o2 es.length c2) := by rw [cell_of h6.at]; rfl
  have hsm := (small_tr o1 o2 fs.length c1 es.length c2).use (h6.mul1.to (SP.mul_comm _ _))
  have Hsm := Lib.hid hsm
  clear h5 h6 hsm Hb
  have Hsm := Hsm.out
  by_cases hs : fs.length ≤ 40 ∧ es.length ≤ 120
  case neg =>
    have e1 : (decide (fs.length ≤ 40) && decide (es.length ≤ 120)) = false := by
      rcases Classical.not_and_iff_not_or_not.1 hs with h | h <;> simp [h]
    rw [e1] at Hsm
    have Hsm := Lib.hid Hsm
    rename_i Hsm0
    clear Hsm0 e1
    go_wp2_with fail
    refine Hsm.out.mono ?_
    rintro e w2 ⟨rfl, h7⟩
    clear Hsm
    go_wp2_with fail
    go_ret
    exact ⟨rfl, h7.drop⟩
  have e1 : (decide (fs.length ≤ 40) && decide (es.length ≤ 120)) = true := by simp [hs.1, hs.2]
  rw [e1] at Hsm
  have Hsm := Lib.hid Hsm
  rename_i Hsm0
  clear Hsm0 e1
  by_cases g_ws : ws.length ≤ 40
  case neg =>
    have g_ws' : (40 : Int) < ws.length := by omega
    go_wp2_with fail
    refine Hsm.out.mono ?_
    rintro e w2 ⟨rfl, h7⟩
    clear Hsm
    go_wp2_with fail
    go_ret
    exact ⟨rfl, h7.drop⟩
  have g_ws' : ¬ (40 : Int) < ws.length := by omega
  go_wp2_with fail
  refine Hsm.out.mono ?_
  rintro e w2 ⟨rfl, h7⟩
  clear Hsm
  have h8 : St (pts w.heap.size (.cells #[.slice o1 fs.length c1, .slice o2 es.length c2] 25 (0, 0)) * 1) F w2 := h7.to (by simp only [SP.one_mul, SP.mul_one])
  have cg0 : w2.cell? ⟨w.heap.size, 0, none⟩ = some (.slice o1 fs.length c1) := by rw [cell_of h8.at]; rfl
  have cg1 : w2.cell? ⟨w.heap.size, 1, none⟩ = some (.slice o2 es.length c2) := by rw [cell_of h8.at]; rfl
  have H8 : Hid (St 1 F w2) := Lib.hid h8.drop2
  clear h7 h8
  go_wp2_with fail
  refine (made F _ _ fs es H1.out H2.out hs.1 hs.2 _ H8.out).mono ?_
  rintro e w3 ⟨i, A, l, v, m, hM, rfl, h9⟩
  have h10 : St (RowP 36 v (l.map refV) * ArenaP i A) F w3 := ((h9.to (SP.mul_assoc _ _ _).symm).drop).to (SP.mul_comm _ _)
  obtain ⟨ol, cl, hv⟩ := h10.rowSlice
  rw [List.length_map] at hv
  subst hv
  have HM := Lib.hid hM
  have H10 := Lib.hid h10
  have Hlen : Hid (l.length ≤ 40) := Lib.hid (by have := hM.len; have := hs.1; omega)
  clear h9 h10 hM H8 cg0 cg1
  go_wp2_with fail
  refine ((mkNew_tr i A 4 (by decide)).use (H10.out.to (SP.mul_comm _ _))).mono ?_
  rintro e w4 ⟨k, rfl, hx⟩
  obtain ⟨⟨hka, hN, hroom⟩, h11⟩ := St.whm.1 hx
  have HN : Hid (k.N = 2049) := Lib.hid (by rw [hN, HM.out.np])
  have Hka := Lib.hid hka
  have Hroom := Lib.hid hroom
  have h12 : St (MarkP k Mk.white * (RowP 36 (.slice ol l.length cl) (l.map refV) * ArenaP i A)) F w4 := h11.to (by unfold Mk.white; simp only [SP.mul_assoc, SP.mul_left_comm, SP.mul_comm])
  have H12 := Lib.hid h12
  clear hx hN hka hroom h11 h12 H10
  go_wp2_with fail
  refine ((djNew_tr k.m).use (H12.out.mul1.to (SP.mul_comm _ _))).mono ?_
  rintro e w5 ⟨b, rfl, h13⟩
  have h14 : St ((boxP b (.pointer (some ⟨k.m, 0, none⟩)) 97 * MarkP k Mk.white) * RowP 36 (.slice ol l.length cl) (l.map refV)) F w5 :=
    (h13.to (Q := (boxP b (.pointer (some ⟨k.m, 0, none⟩)) 97 * MarkP k Mk.white) * RowP 36 (.slice ol l.length cl) (l.map refV) * ArenaP i A) (by simp only [SP.mul_assoc])).drop
  clear h13 H12
  go_wp2_with fail
  go_loopg [36] ws.length (fun g v wr => ∃ (n : Nat), n ≤ ws.length ∧ g = ws.length - n ∧ v = .int .i64 n ∧ St ((boxP b (.pointer (some ⟨k.m, 0, none⟩)) 97 * MarkP k Mk.white) * RowP 36 (.slice ol l.length cl) (l.map refV)) F wr)
  case atStart => exact ⟨0, Nat.zero_le _, rfl, rfl, h14⟩
  case round =>
    clear h14
    obtain ⟨n, hn, hg, rfl, hst⟩ := hrel
    have Hst := Lib.hid hst
    have Hg := Lib.hid hg
    clear hst hg
    by_cases hlt : n < ws.length
    · have hlt' : (n : Int) < ws.length := by omega
      have hw3 : IntKind.i64.wrap ((n : Int) + 1) = ((n + 1 : Nat) : Int) := by rw [IntKind.wrap_i64]; omega
      have hn0 : 0 ≤ (n : Int) := by omega
      obtain ⟨x, a, hx, ho, ⟨hx1, hx2⟩, cx1, cx2⟩ := InPairs.next H_ws.out Hst.out hlt
      subst ho
      clear hx
      by_cases hl0 : l.length = 0
      · have hlb : ((l.length : Int) == 0) = true := by simp [hl0]
        have h60 := (Hst.out.alloc (.cells #[.int .u8 x.1, .int .u8 x.2] 41)).drop2
        go_wp2_with fail
        refine ((mkCount_tr k Mk.white).use (h60.to (Q := MarkP k Mk.white * (boxP b (.pointer (some ⟨k.m, 0, none⟩)) 97 * RowP 36 (.slice ol l.length cl) (l.map refV))) (by simp only [SP.mul_assoc, SP.mul_left_comm, SP.mul_comm]))).mono ?_
        rintro e w7 ⟨rfl, h70⟩
        rw [popw_white]
        have Hd := Lib.hid ((drained_tr k Mk.white).use h70)
        rw [drained_white] at Hd
        clear h70
        go_wp2_with fail
        refine Hd.out.mono ?_
        rintro e w8 ⟨rfl, h71⟩
        go_wp2_with fail
        go_ret
        exact ⟨rfl, h71.frame⟩
      · have hlb : ((l.length : Int) == 0) = false := by rw [beq_eq_false_iff_ne]; omega
        go_wp2_with fail
        have hb := Hst.out.alloc (.cells #[.int .u8 x.1, .int .u8 x.2] 41)
        have h31 : St (RowP 36 (.slice ol l.length cl) (l.map refV) * (pts wr.heap.size (.cells #[.int .u8 x.1, .int .u8 x.2] 41 (0, 0)) * (boxP b (.pointer (some ⟨k.m, 0, none⟩)) 97 * MarkP k Mk.white))) F (wr.alloc (.cells #[.int .u8 x.1, .int .u8 x.2] 41)) := hb.to (SP.l3 _ _ _)
        obtain ⟨rx, g, hmx, hrx, e1, crx, ht1, hi1⟩ := h31.pick hl0 x.1
        obtain ⟨ry, g', hmy, hry, e2, cry, ht2, hi2⟩ := h31.pick hl0 x.2
        subst e1
        cases e2
        have cb0 : (wr.alloc (.cells #[.int .u8 x.1, .int .u8 x.2] 41)).cell? ⟨wr.heap.size, 0, none⟩ = some (.int .u8 x.1) := by rw [cell_of hb.at]; rfl
        have cb1 : (wr.alloc (.cells #[.int .u8 x.1, .int .u8 x.2] 41)).cell? ⟨wr.heap.size, 1, none⟩ = some (.int .u8 x.2) := by rw [cell_of hb.at]; rfl
        have H31 := Lib.hid h31
        clear hb h31 hmx hmy hrx hry cx1 cx2 Hst
        generalize wr.alloc (.cells #[.int .u8 x.1, .int .u8 x.2] 41) = wa at *
        generalize wr.heap.size = bb at *
        go_quiet (fail)
        have H32 := Lib.hid (H31.out.drewN nq)
        clear H31 crx cry cb0 cb1 ht1 ht2 hi1 hi2
        generalize wa.drewN nq = wb at *
        go_wp2_with fail
        refine (djPre_any _ _ _ _).mono ?_
        rintro e w9 ⟨rfl, rfl⟩
        have hq := (H32.out.to (SP.mul_left_comm _ _ _)).at
        have cb0 : w9.cell? ⟨bb, 0, none⟩ = some (.int .u8 x.1) := by rw [cell_of hq]; rfl
        have cb1 : w9.cell? ⟨bb, 1, none⟩ = some (.int .u8 x.2) := by rw [cell_of hq]; rfl
        clear hq
        go_wp2_with fail
        refine ((djPost_tr b k Mk.white _ _ 0 _ _ (by rw [HN.out]; decide)).use (H32.out.to (SP.l3 _ _ _))).mono ?_
        rintro e w10 ⟨rfl, h33⟩
        rw [Mk.shade_zero] at h33
        have H33 := Lib.hid (h33.to (SP.mul_assoc _ _ _).symm).drop
        clear h33 H32 cb0 cb1
        go_wp2_with fail
        refine (djRemark_any _ _).mono ?_
        rintro e w11 ⟨rfl, rfl⟩
        go_wp2_with fail
        refine (djReset_any _ _).mono ?_
        rintro e w12 ⟨rfl, rfl⟩
        go_wp2_with fail
        go_roundg (ws.length - (n + 1))
        case measure => have := Hg.out; omega
        case rel => exact ⟨n + 1, by omega, rfl, by go_num, H33.out⟩
    · obtain rfl : n = ws.length := by omega
      go_wp2_with fail
      refine ((mkCount_tr k Mk.white).use (Hst.out.to (Q := MarkP k Mk.white * (boxP b (.pointer (some ⟨k.m, 0, none⟩)) 97 * RowP 36 (.slice ol l.length cl) (l.map refV))) (by simp only [SP.mul_assoc, SP.mul_left_comm, SP.mul_comm]))).mono ?_
      rintro e w7 ⟨rfl, h70⟩
      rw [popw_white]
      have Hd := Lib.hid ((drained_tr k Mk.white).use h70)
      rw [drained_white] at Hd
      clear h70
      go_wp2_with fail
      refine Hd.out.mono ?_
      rintro e w8 ⟨rfl, h71⟩
      go_wp2_with fail
      go_ret
      exact ⟨rfl, h71.frame⟩
end Go.Proofs.Ytknmlfolbapmpaa
