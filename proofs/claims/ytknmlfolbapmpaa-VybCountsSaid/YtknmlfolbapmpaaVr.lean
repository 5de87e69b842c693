import Derived.Test.YtknmlfolbapmpaaVy4
import Derived.Test.YtknmlfolbapmpaaWr
namespace Go.Proofs.Ytknmlfolbapmpaa
open Go Go.RowKit

set_option maxRecDepth 100000 in
set_option maxHeartbeats 40000000 in
/-- VybRemarks: what counts is shaded, and nothing else, whether the log ran over or not. -/
theorem vybRemarks (F : Fr) (v1 v2 v_ws : Value) (fs : List Nat) (es : List (Nat × Nat × Nat)) (ws : List (Nat × Nat × Nat × Nat)) (rm : Nat) (h1 : InBytes F v1 fs) (h2 : InTriples F v2 es) (h_ws : InQuads F v_ws ws) (h_rm : rm < 256)
    (w : World) (h : St 1 F w) : Calls Try.prog 9 #[.agg #[v1, v2], v_ws, .int .u8 (rm : Int)] w fun e w' => e = .returned (.bool true) ∧ St 1 F w' := by
  obtain ⟨o1, c1, rfl, H1⟩ := id h1
  obtain ⟨o2, c2, rfl, H2⟩ := id h2
  obtain ⟨o_ws, c_ws, rfl, h_ws⟩ := h_ws
  clear H1 H2
  have H1 := Lib.hid h1
  have H2 := Lib.hid h2
  have H_ws := Lib.hid h_ws
  clear h1 h2 h_ws
  have hb := h.mul1.alloc (.cells #[.slice o1 fs.length c1, .slice o2 es.length c2] 25)
  have Hb := Lib.hid hb
  clear h hb
  go_enter Try.func9, Try.ntmps9
  go_wp2_with fail
  refine (vyFit.use (Hb.out.mul1.to (SP.mul_comm _ _))).mono ?_
  rintro e w1 ⟨rfl, h5⟩
  have h6 : St (pts w.heap.size (.cells #[.slice o1 fs.length c1, .slice o2 es.length c2] 25 (0, 0)) * 1) F w1 := h5.to (by simp only [SP.one_mul, SP.mul_one])
  have cg0 : w1.cell? ⟨w.heap.size, 0, none⟩ = some (.slice o1 fs.length c1) := by rw [cell_of h6.at]; rfl
  have cg1 : w1.cell? ⟨w.heap.size, 1, none⟩ = some (.slice o2 es.length c2) := by rw [cell_of h6.at]; rfl
  have hsm := (small_tr o1 o2 fs.length c1 es.length c2).use (h6.mul1.to (SP.mul_comm _ _))
  have Hsm := Lib.hid hsm
  clear h5 h6 hsm Hb
  have Hsm := Hsm.out
  by_cases hs : fs.length ≤ 40 ∧ es.length ≤ 120
  case neg =>
    have e1 : (decide (fs.length ≤ 40) && decide (es.length ≤ 120)) = false := by
      rcases Classical.not_and_iff_not_or_not.1 hs with h | h <;> simp [h]
    rw [e1] at Hsm
    have Hsm := Lib.hid Hsm
    rename_i Hsm0
    clear Hsm0 e1
    go_wp2_with fail
    refine Hsm.out.mono ?_
    rintro e w2 ⟨rfl, h7⟩
    clear Hsm
    go_wp2_with fail
    go_ret
    exact ⟨rfl, h7.drop⟩
  have e1 : (decide (fs.length ≤ 40) && decide (es.length ≤ 120)) = true := by simp [hs.1, hs.2]
  rw [e1] at Hsm
  have Hsm := Lib.hid Hsm
  rename_i Hsm0
  clear Hsm0 e1
  by_cases g_ws : ws.length ≤ 60
  case neg =>
    have g_ws' : (60 : Int) < ws.length := by omega
    go_wp2_with fail
    refine Hsm.out.mono ?_
    rintro e w2 ⟨rfl, h7⟩
    clear Hsm
    go_wp2_with fail
    go_ret
    exact ⟨rfl, h7.drop⟩
  have g_ws' : ¬ (60 : Int) < ws.length := by omega
  go_wp2_with fail
  refine Hsm.out.mono ?_
  rintro e w2 ⟨rfl, h7⟩
  clear Hsm
  have h8 : St (pts w.heap.size (.cells #[.slice o1 fs.length c1, .slice o2 es.length c2] 25 (0, 0)) * 1) F w2 := h7.to (by simp only [SP.one_mul, SP.mul_one])
  have cg0 : w2.cell? ⟨w.heap.size, 0, none⟩ = some (.slice o1 fs.length c1) := by rw [cell_of h8.at]; rfl
  have cg1 : w2.cell? ⟨w.heap.size, 1, none⟩ = some (.slice o2 es.length c2) := by rw [cell_of h8.at]; rfl
  have H8 : Hid (St 1 F w2) := Lib.hid h8.drop2
  clear h7 h8
  go_wp2_with fail
  refine (made F _ _ fs es H1.out H2.out hs.1 hs.2 _ H8.out).mono ?_
  rintro e w3 ⟨i, A, l, v, m, hM, rfl, h9⟩
  have h10 : St (RowP 36 v (l.map refV) * ArenaP i A) F w3 := ((h9.to (SP.mul_assoc _ _ _).symm).drop).to (SP.mul_comm _ _)
  obtain ⟨ol, cl, hv⟩ := h10.rowSlice
  rw [List.length_map] at hv
  subst hv
  have HM := Lib.hid hM
  have H10 := Lib.hid h10
  have Hlen : Hid (l.length ≤ 40) := Lib.hid (by have := hM.len; have := hs.1; omega)
  clear h9 h10 hM H8 cg0 cg1
  by_cases hl0 : l.length = 0
  case pos =>
    have hlb : ((l.length : Int) == 0) = true := by simp [hl0]
    go_wp2_with fail
    go_ret
    exact ⟨rfl, H10.out.frame⟩
  have hlb : ((l.length : Int) == 0) = false := by rw [beq_eq_false_iff_ne]; omega
  go_wp2_with fail
  refine ((mkNew_tr i A 64 (by decide)).use (H10.out.to (SP.mul_comm _ _))).mono ?_
  rintro e w4 ⟨k, rfl, hx⟩
  obtain ⟨⟨hka, hN, hroom⟩, h11⟩ := St.whm.1 hx
  have HN : Hid (k.N = 2049) := Lib.hid (by rw [hN, HM.out.np])
  have Hka := Lib.hid hka
  have Hroom := Lib.hid hroom
  have h12 : St (MarkP k Mk.white * (RowP 36 (.slice ol l.length cl) (l.map refV) * ArenaP i A)) F w4 := h11.to (by unfold Mk.white; simp only [SP.mul_assoc, SP.mul_left_comm, SP.mul_comm])
  have H12 := Lib.hid h12
  clear hx hN hka hroom h11 h12 H10
  have hr1 : Int.tmod (rm : Int) 20 = ((rm % 20 : Nat) : Int) := by rw [Int.tmod_eq_emod_of_nonneg (by omega)]; omega
  have hr8 : rm % 20 < 20 := Nat.mod_lt _ (by decide)
  generalize rm % 20 = room at *
  have hr2 : IntKind.u8.wrap (room : Int) = room := by rw [IntKind.wrap_u8]; omega
  have hr3 : IntKind.i64.wrap (room : Int) = room := by rw [IntKind.wrap_i64]; omega
  have Htk := Lib.hid HM.out.tks
  have HN2 : Hid (k.N = 32 * A.np + 1) := Lib.hid (by rw [HN.out, HM.out.np])
  go_wp2_with fail
  refine ((vyNew_tr k Mk.white i A Hka.out (by rw [HM.out.np]; decide) (room : Int) (by omega) (by omega)).use (H12.out.to (Q := (MarkP k Mk.white * ArenaP i A) * RowP 36 (.slice ol l.length cl) (l.map refV)) (by simp only [SP.mul_assoc, SP.mul_left_comm, SP.mul_comm]))).mono ?_
  rintro e w5 ⟨v, rfl, h13⟩
  obtain ⟨⟨hvm, hvN, hvr⟩, h14⟩ := St.whm.1 h13
  have Hvm := Lib.hid hvm
  have HvN := Lib.hid hvN
  have h15 : St (VyP v Vy.none * ((MarkP k Mk.white * ArenaP i A) * RowP 36 (.slice ol l.length cl) (l.map refV))) F w5 := h14.to (SP.mul_assoc _ _ _)
  have Hlt : Hid (∀ r, r = 0 ∨ r ∈ l → r < v.N) := Lib.hid (by
    intro r hr
    rw [HvN.out]
    rcases hr with rfl | hr
    · omega
    · exact (Htk.out.1 r hr).1)
  clear h13 h14 H12 hvm hvN hvr
  go_wp2_with fail
  go_loopg [44] ws.length (fun g s wr => ∃ (n : Nat) (V : Vy), n ≤ ws.length ∧ g = ws.length - n ∧ s = .int .i64 n ∧ VyOk l V ∧ St (VyP v V * ((MarkP k Mk.white * ArenaP i A) * RowP 36 (.slice ol l.length cl) (l.map refV))) F wr)
  case atStart => exact ⟨0, Vy.none, Nat.zero_le _, rfl, rfl, VyOk.none _, h15⟩
  case round =>
    clear h15
    obtain ⟨n, V, hn, hg, rfl, hok, hst⟩ := hrel
    have Hst := Lib.hid hst
    have Hok := Lib.hid hok
    have Hg := Lib.hid hg
    clear hst hg hok
    by_cases hlt : n < ws.length
    · have hlt' : (n : Int) < ws.length := by omega
      have hw3 : IntKind.i64.wrap ((n : Int) + 1) = ((n + 1 : Nat) : Int) := by rw [IntKind.wrap_i64]; omega
      have hn0 : 0 ≤ (n : Int) := by omega
      obtain ⟨x, a, hx, ho, hx4, cx1, cx2, cx3, cx4⟩ := InQuads.next H_ws.out Hst.out hlt
      have Hx4 := Lib.hid hx4
      subst ho
      clear hx hx4
      have h31 : St (RowP 36 (.slice ol l.length cl) (l.map refV) * (VyP v V * (MarkP k Mk.white * ArenaP i A))) F (wr.alloc (.cells #[.int .u8 x.1, .int .u8 x.2.1, .int .u8 x.2.2.1, .int .u8 x.2.2.2] 50)) :=
        ((Hst.out.alloc (.cells #[.int .u8 x.1, .int .u8 x.2.1, .int .u8 x.2.2.1, .int .u8 x.2.2.2] 50)).drop2).to (SP.l3 _ _ _)
      have Hw := Lib.hid (write_use hl0 Hlen.out x Hx4.out h31)
      clear h31
      go_wp2_with fail
      refine Hw.out.mono ?_
      rintro e w6 ⟨rx, ry, rz, bk, rfl, hm, h32⟩
      have Hm := Lib.hid hm
      have H32 := Lib.hid (h32.to (Q := VyP v V * ((MarkP k Mk.white * ArenaP i A) * RowP 36 (.slice ol l.length cl) (l.map refV))) (by simp only [SP.mul_assoc, SP.mul_left_comm, SP.mul_comm]))
      clear hm h32 Hw cx1 cx2 cx3 cx4 Hst
      go_wp2_with fail
      refine ((vyPost_tr v V rx ry rz bk false (Hlt.out _ Hm.out.2.1) (Hlt.out _ Hm.out.2.2)).use H32.out).mono ?_
      rintro e w7 ⟨rfl, h33⟩
      have H33 := Lib.hid h33
      clear h33 H32
      go_wp2_with fail
      go_roundg (ws.length - (n + 1))
      case measure => have := Hg.out; omega
      case rel => exact ⟨n + 1, _, by omega, rfl, by go_num, Hok.out.post _ _ _ Hm.out.2.2, H33.out⟩
    · obtain rfl : n = ws.length := by omega
      have hok := Hok.out
      have hmk := fun r => hok.marks A (32 * A.np + 1) Htk.out.1 Htk.out.2 k.room Mk.white r
      have Hlog : Hid (∀ r ∈ V.log, r < v.N) := Lib.hid (fun r hr => Hlt.out r (.inr (hok.log r hr)))
      have hrem := (vyRemark_tr v V k Mk.white i A Hvm.out Hka.out HvN.out HN2.out Hlog.out).use (Hst.out.to (SP.mul_assoc _ _ _).symm)
      generalize Mk.shades k.room Mk.white (vyRs A (32 * A.np + 1) V) = M2 at *
      have hmd : ∀ r, M2.md r = decide ((0 : Int) < V.cnt r) := fun r => by rw [(hmk r).1]; simp [Mk.white]
      have hsc : ∀ r, M2.sc r = false := fun r => by rw [(hmk r).2]; rfl
      have Hrem := Lib.hid hrem
      have Hmd := Lib.hid hmd
      have Hsc := Lib.hid hsc
      clear hok hmk Hlog hrem hmd hsc Hst Hok Hg
      go_wp2_with fail
      refine Hrem.out.mono ?_
      rintro e w7 ⟨rfl, h40⟩
      have h41 : St (MarkP k M2 * (VyP v V * RowP 36 (.slice ol l.length cl) (l.map refV))) F w7 :=
        (h40.to (Q := MarkP k M2 * (VyP v V * RowP 36 (.slice ol l.length cl) (l.map refV)) * ArenaP i A) (by simp only [SP.mul_assoc, SP.mul_left_comm, SP.mul_comm])).drop
      clear h40 Hrem
      go_wp2_with fail
      go_loopg [58] l.length (fun g s wr => ∃ (p : Nat), p ≤ l.length ∧ g = l.length - p ∧ s = .int .i64 p ∧ St (MarkP k M2 * (VyP v V * RowP 36 (.slice ol l.length cl) (l.map refV))) F wr)
      case atStart => exact ⟨0, Nat.zero_le _, rfl, rfl, h41⟩
      case round =>
        clear h41
        obtain ⟨p, hp, hg, rfl, hst⟩ := hrel
        have Hg := Lib.hid hg
        clear hg
        by_cases hlp : p < l.length
        · have hlp' : (p : Int) < l.length := by omega
          have hw4 : IntKind.i64.wrap ((p : Int) + 1) = ((p + 1 : Nat) : Int) := by have := Hlen.out; rw [IntKind.wrap_i64]; omega
          have hp0 : 0 ≤ (p : Int) := by omega
          obtain ⟨rp, hrp⟩ : ∃ r, l[p]? = some r := ⟨l[p], by simp [hlp]⟩
          have Hri := Lib.hid (Hlt.out rp (.inr (List.mem_iff_getElem?.2 ⟨_, hrp⟩)))
          have Hrk : Hid (rp < k.N) := Lib.hid (by rw [HN2.out, ← HvN.out]; exact Hri.out)
          obtain ⟨g, eg, crx⟩ := (hst.to (SP.l3 _ _ _)).refAt hrp
          subst eg
          have Hm := Lib.hid ((marked_tr k M2 rp Hrk.out).use hst)
          rw [Hmd.out] at Hm
          clear hst hrp
          go_wp2_with fail
          refine Hm.out.mono ?_
          rintro e w8 ⟨rfl, h42⟩
          have Hc := Lib.hid ((vyCount_tr v V rp Hri.out).use (h42.to (SP.mul_left_comm _ _ _)))
          clear h42 Hm crx
          go_wp2_with fail
          refine Hc.out.mono ?_
          rintro e w9 ⟨rfl, h43⟩
          have Hs := Lib.hid ((scanned_tr k M2 rp Hrk.out).use (h43.to (SP.mul_left_comm _ _ _)))
          rw [Hsc.out] at Hs
          clear h43 Hc
          go_wp2_with fail
          refine Hs.out.mono ?_
          rintro e w10 ⟨rfl, h44⟩
          have H44 := Lib.hid h44
          clear h44 Hs
          go_wp2_with fail
          go_roundg (l.length - (p + 1))
          case measure => have := Hg.out; omega
          case rel => exact ⟨p + 1, by omega, rfl, by go_num, H44.out⟩
        · obtain rfl : p = l.length := by omega
          have H44 := Lib.hid hst
          clear hst
          go_wp2_with fail
          go_ret
          exact ⟨rfl, H44.out.frame⟩
end Go.Proofs.Ytknmlfolbapmpaa
