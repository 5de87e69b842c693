import Derived.Test.YtknmlfolbapmpaaVr
namespace Go.Proofs.Ytknmlfolbapmpaa
open Go Go.RowKit

theorem popc_pow : ∀ j : Fin 64, popc ((2 ^ j.val : Nat) : Int) = 1 := by decide +kernel
theorem popw_one (x : Nat) (k : Nat) : popw (upd (fun _ => false) x true) k = if x / 64 < k then 1 else 0 := by
  have h0 : popc ((0 : Nat) : Int) = 0 := by kernel_rfl
  have hw : ∀ k, word (upd (fun _ => false) x true) k = if k = x / 64 then 2 ^ (x % 64) else 0 := by
    intro k
    rw [word_put, word_none]
    simp
  have h1 : popc ((2 ^ (x % 64) : Nat) : Int) = 1 := popc_pow ⟨x % 64, Nat.mod_lt _ (by decide)⟩
  induction k with
  | zero => simp [popw]
  | succ k ih =>
    rw [popw, ih, hw]
    by_cases e : k = x / 64
    · rw [if_pos e, h1, if_neg (by omega), if_pos (by omega)]
      unfold wrap64; decide
    · rw [if_neg e, h0]
      by_cases e2 : x / 64 < k
      · rw [if_pos e2, if_pos (by omega)]
        unfold wrap64; decide
      · rw [if_neg e2, if_neg (by omega)]
        unfold wrap64; decide
theorem setCount_one (x n : Nat) (h : x < n) : setCount (upd (fun _ => false) x true) n = 1 := by
  unfold setCount
  rw [popw_one, if_pos]
  unfold nwords
  omega

set_option maxRecDepth 100000 in
set_option maxHeartbeats 40000000 in
/-- VybWhite: writes to what was not black then, and all that comes ahead of a write, count nothing, and do not come to the log. -/
theorem vybWhite (F : Fr) (v1 v2 v_ws : Value) (fs : List Nat) (es : List (Nat × Nat × Nat)) (ws : List (Nat × Nat × Nat × Nat)) (h1 : InBytes F v1 fs) (h2 : InTriples F v2 es) (h_ws : InQuads F v_ws ws)
    (w : World) (h : St 1 F w) : Calls Try.prog 15 #[.agg #[v1, v2], v_ws] w fun e w' => e = .returned (.bool true) ∧ St 1 F w' := by
  obtain ⟨o1, c1, rfl, H1⟩ := id h1
  obtain ⟨o2, c2, rfl, H2⟩ := id h2
  obtain ⟨o_ws, c_ws, rfl, h_ws⟩ := h_ws
  clear H1 H2
  have H1 := Lib.hid h1
  have H2 := Lib.hid h2
  have H_ws := Lib.hid h_ws
  clear h1 h2 h_ws
  have hb := h.mul1.alloc (.cells #[.slice o1 fs.length c1, .slice o2 es.length c2] 25)
  have Hb := Lib.hid hb
  clear h hb
  go_enter Try.func15, Try.ntmps15
  go_wp2_with fail
  refine (vyFit.use (Hb.out.mul1.to (SP.mul_comm _ _))).mono ?_
  rintro e w1 ⟨rfl, h5⟩
  have h6 : St (pts w.heap.size (.cells #[.slice o1 fs.length c1, .slice o2 es.length c2] 25 (0, 0)) * 1) F w1 := h5.to (by simp only [SP.one_mul, SP.mul_one])
  have cg0 : w1.cell? ⟨w.heap.size, 0, none⟩ = some (.slice o1 fs.length c1) := by rw [cell_of h6.at]; rfl
  have cg1 : w1.cell? ⟨w.heap.size, 1, none⟩ = some (.slice o2 es.length c2) := by rw [cell_of h6.at]; rfl
  have hsm := (small_tr o1 o2 fs.length c1 es.length c2).use (h6.mul1.to (SP.mul_comm _ _))
  have Hsm := Lib.hid hsm
  clear h5 h6 hsm Hb
  have Hsm := Hsm.out
  by_cases hs : fs.length ≤ 40 ∧ es.length ≤ 120
  case neg =>
    have e1 : (decide (fs.length ≤ 40) && decide (es.length ≤ 120)) = false := by
      rcases Classical.not_and_iff_not_or_not.1 hs with h | h <;> simp [h]
    rw [e1] at Hsm
    have Hsm := Lib.hid Hsm
    rename_i Hsm0
    clear Hsm0 e1
    go_wp2_with fail
    refine Hsm.out.mono ?_
    rintro e w2 ⟨rfl, h7⟩
    clear Hsm
    go_wp2_with fail
    go_ret
    exact ⟨rfl, h7.drop⟩
  have e1 : (decide (fs.length ≤ 40) && decide (es.length ≤ 120)) = true := by simp [hs.1, hs.2]
  rw [e1] at Hsm
  have Hsm := Lib.hid Hsm
  rename_i Hsm0
  clear Hsm0 e1
  by_cases g_ws : ws.length ≤ 60
  case neg =>
    have g_ws' : (60 : Int) < ws.length := by omega
    go_wp2_with fail
    refine Hsm.out.mono ?_
    rintro e w2 ⟨rfl, h7⟩
    clear Hsm
    go_wp2_with fail
    go_ret
    exact ⟨rfl, h7.drop⟩
  have g_ws' : ¬ (60 : Int) < ws.length := by omega
  go_wp2_with fail
  refine Hsm.out.mono ?_
  rintro e w2 ⟨rfl, h7⟩
  clear Hsm
  have h8 : St (pts w.heap.size (.cells #[.slice o1 fs.length c1, .slice o2 es.length c2] 25 (0, 0)) * 1) F w2 := h7.to (by simp only [SP.one_mul, SP.mul_one])
  have cg0 : w2.cell? ⟨w.heap.size, 0, none⟩ = some (.slice o1 fs.length c1) := by rw [cell_of h8.at]; rfl
  have cg1 : w2.cell? ⟨w.heap.size, 1, none⟩ = some (.slice o2 es.length c2) := by rw [cell_of h8.at]; rfl
  have H8 : Hid (St 1 F w2) := Lib.hid h8.drop2
  clear h7 h8
  go_wp2_with fail
  refine (made F _ _ fs es H1.out H2.out hs.1 hs.2 _ H8.out).mono ?_
  rintro e w3 ⟨i, A, l, v, m, hM, rfl, h9⟩
  have h10 : St (RowP 36 v (l.map refV) * ArenaP i A) F w3 := ((h9.to (SP.mul_assoc _ _ _).symm).drop).to (SP.mul_comm _ _)
  obtain ⟨ol, cl, hv⟩ := h10.rowSlice
  rw [List.length_map] at hv
  subst hv
  have HM := Lib.hid hM
  have H10 := Lib.hid h10
  have Hlen : Hid (l.length ≤ 40) := Lib.hid (by have := hM.len; have := hs.1; omega)
  clear h9 h10 hM H8 cg0 cg1
  by_cases hl0 : l.length = 0
  case pos =>
    have hlb : ((l.length : Int) == 0) = true := by simp [hl0]
    go_wp2_with fail
    go_ret
    exact ⟨rfl, H10.out.frame⟩
  have hlb : ((l.length : Int) == 0) = false := by rw [beq_eq_false_iff_ne]; omega
  go_wp2_with fail
  refine ((mkNew_tr i A 64 (by decide)).use (H10.out.to (SP.mul_comm _ _))).mono ?_
  rintro e w4 ⟨k, rfl, hx⟩
  obtain ⟨⟨hka, hN, hroom⟩, h11⟩ := St.whm.1 hx
  have HN : Hid (k.N = 2049) := Lib.hid (by rw [hN, HM.out.np])
  have Hka := Lib.hid hka
  have Hroom := Lib.hid hroom
  have h12 : St (MarkP k Mk.white * (RowP 36 (.slice ol l.length cl) (l.map refV) * ArenaP i A)) F w4 := h11.to (by unfold Mk.white; simp only [SP.mul_assoc, SP.mul_left_comm, SP.mul_comm])
  have H12 := Lib.hid h12
  clear hx hN hka hroom h11 h12 H10
  have Htk := Lib.hid HM.out.tks
  have HN2 : Hid (k.N = 32 * A.np + 1) := Lib.hid (by rw [HN.out, HM.out.np])
  go_wp2_with fail
  refine ((vyNew_tr k Mk.white i A Hka.out (by rw [HM.out.np]; decide) 0 (by decide) (by decide)).use (H12.out.to (Q := (MarkP k Mk.white * ArenaP i A) * RowP 36 (.slice ol l.length cl) (l.map refV)) (by simp only [SP.mul_assoc, SP.mul_left_comm, SP.mul_comm]))).mono ?_
  rintro e w5 ⟨v, rfl, h13⟩
  obtain ⟨⟨hvm, hvN, hvr⟩, h14⟩ := St.whm.1 h13
  have Hvm := Lib.hid hvm
  have HvN := Lib.hid hvN
  have Hvr : Hid (v.room = 0) := Lib.hid (by rw [hvr]; rfl)
  have h15 : St (VyP v Vy.none * ((MarkP k Mk.white * ArenaP i A) * RowP 36 (.slice ol l.length cl) (l.map refV))) F w5 := h14.to (SP.mul_assoc _ _ _)
  have Hlt : Hid (∀ r, r = 0 ∨ r ∈ l → r < v.N) := Lib.hid (by
    intro r hr
    rw [HvN.out]
    rcases hr with rfl | hr
    · omega
    · exact (Htk.out.1 r hr).1)
  clear h13 h14 H12 hvm hvN hvr
  go_wp2_with fail
  go_loopg [40] ws.length (fun g s wr => ∃ (n : Nat), n ≤ ws.length ∧ g = ws.length - n ∧ s = .int .i64 n ∧ St (VyP v Vy.none * ((MarkP k Mk.white * ArenaP i A) * RowP 36 (.slice ol l.length cl) (l.map refV))) F wr)
  case atStart => exact ⟨0, Nat.zero_le _, rfl, rfl, h15⟩
  case round =>
    clear h15
    obtain ⟨n, hn, hg, rfl, hst⟩ := hrel
    have Hst := Lib.hid hst
    have Hg := Lib.hid hg
    clear hst hg
    by_cases hlt : n < ws.length
    · have hlt' : (n : Int) < ws.length := by omega
      have hw3 : IntKind.i64.wrap ((n : Int) + 1) = ((n + 1 : Nat) : Int) := by rw [IntKind.wrap_i64]; omega
      have hn0 : 0 ≤ (n : Int) := by omega
      obtain ⟨x, a, hx, ho, hx4, cx1, cx2, cx3, cx4⟩ := InQuads.next H_ws.out Hst.out hlt
      have Hx4 := Lib.hid hx4
      subst ho
      clear hx hx4
      have h31 : St (RowP 36 (.slice ol l.length cl) (l.map refV) * (VyP v Vy.none * (MarkP k Mk.white * ArenaP i A))) F (wr.alloc (.cells #[.int .u8 x.1, .int .u8 x.2.1, .int .u8 x.2.2.1, .int .u8 x.2.2.2] 50)) :=
        ((Hst.out.alloc (.cells #[.int .u8 x.1, .int .u8 x.2.1, .int .u8 x.2.2.1, .int .u8 x.2.2.2] 50)).drop2).to (SP.l3 _ _ _)
      have Hw := Lib.hid (write_use hl0 Hlen.out x Hx4.out h31)
      clear h31
      go_wp2_with fail
      refine Hw.out.mono ?_
      rintro e w6 ⟨rx, ry, rz, bk, rfl, hm, h32⟩
      have Hm := Lib.hid hm
      have h33 := h32.alloc (.cells #[.int .i64 rx, .int .i64 ry, .int .i64 rz, .bool false, .bool false] 45)
      have H33 : Hid (St (VyP v Vy.none * ((MarkP k Mk.white * ArenaP i A) * RowP 36 (.slice ol l.length cl) (l.map refV))) F (w6.alloc (.cells #[.int .i64 rx, .int .i64 ry, .int .i64 rz, .bool false, .bool false] 45))) := Lib.hid ((h33.drop2).to (SP.l3 _ _ _).symm)
      clear hm h32 h33 Hw cx1 cx2 cx3 cx4 Hst
      go_wp2_with fail
      refine (vyPre_any _ _ _ _).mono ?_
      rintro e w8 ⟨rfl, rfl⟩
      go_wp2_with fail
      refine ((vyPost_tr v Vy.none rx ry rz false false (Hlt.out _ Hm.out.2.1) (Hlt.out _ Hm.out.2.2)).use H33.out).mono ?_
      rintro e w9 ⟨rfl, h34⟩
      have H34 : Hid (St (VyP v Vy.none * ((MarkP k Mk.white * ArenaP i A) * RowP 36 (.slice ol l.length cl) (l.map refV))) F w9) := Lib.hid h34
      clear h34 H33
      go_wp2_with fail
      go_roundg (ws.length - (n + 1))
      case measure => have := Hg.out; omega
      case rel => exact ⟨n + 1, by omega, rfl, by go_num, H34.out⟩
    · obtain rfl : n = ws.length := by omega
      have Ho := Lib.hid ((vyOver_tr v Vy.none).use Hst.out)
      rw [show Vy.none.over = false from rfl] at Ho
      have hM : Mk.white.shades k.room (vyRs A (32 * A.np + 1) Vy.none) = Mk.white := by simp [vyRs, Vy.none, Mk.shades]
      have hlog : ∀ r ∈ Vy.none.log, r < v.N := fun r hr => by simp [Vy.none] at hr
      have hrem := fun W (hW : St (VyP v Vy.none * ((MarkP k Mk.white * ArenaP i A) * RowP 36 (.slice ol l.length cl) (l.map refV))) F W) => (vyRemark_tr v Vy.none k Mk.white i A Hvm.out Hka.out HvN.out HN2.out hlog).use (hW.to (SP.mul_assoc _ _ _).symm)
      rw [hM] at hrem
      have Hrem := Lib.hid hrem
      clear hM hlog hrem Hst Hg
      go_wp2_with fail
      refine Ho.out.mono ?_
      rintro e w6 ⟨rfl, h40⟩
      have Hr := Lib.hid (Hrem.out _ h40)
      clear h40 Ho Hrem
      go_wp2_with fail
      refine Hr.out.mono ?_
      rintro e w7 ⟨rfl, h40⟩
      have h41 : St (VyP v Vy.none * ((MarkP k Mk.white * ArenaP i A) * RowP 36 (.slice ol l.length cl) (l.map refV))) F w7 := h40.to (SP.mul_assoc _ _ _)
      clear h40 Hr
      go_wp2_with fail
      go_loopg [64] l.length (fun g s wr => ∃ (p : Nat), p ≤ l.length ∧ g = l.length - p ∧ s = .int .i64 p ∧ St (VyP v Vy.none * ((MarkP k Mk.white * ArenaP i A) * RowP 36 (.slice ol l.length cl) (l.map refV))) F wr)
      case atStart => exact ⟨0, Nat.zero_le _, rfl, rfl, h41⟩
      case round =>
        clear h41
        obtain ⟨p, hp, hg, rfl, hst⟩ := hrel
        have Hg := Lib.hid hg
        clear hg
        by_cases hlp : p < l.length
        · have hlp' : (p : Int) < l.length := by omega
          have hw4 : IntKind.i64.wrap ((p : Int) + 1) = ((p + 1 : Nat) : Int) := by have := Hlen.out; rw [IntKind.wrap_i64]; omega
          have hp0 : 0 ≤ (p : Int) := by omega
          obtain ⟨rp, hrp⟩ : ∃ r, l[p]? = some r := ⟨l[p], by simp [hlp]⟩
          have Hri := Lib.hid (Hlt.out rp (.inr (List.mem_iff_getElem?.2 ⟨_, hrp⟩)))
          have Hrk : Hid (rp < k.N) := Lib.hid (by rw [HN2.out, ← HvN.out]; exact Hri.out)
          obtain ⟨g, eg, crx⟩ := (hst.to (SP.l3 _ _ _)).refAt hrp
          subst eg
          have Hc := Lib.hid ((vyCount_tr v Vy.none rp Hri.out).use hst)
          rw [show Vy.none.cnt rp = 0 from rfl] at Hc
          clear hst hrp
          go_wp2_with fail
          refine Hc.out.mono ?_
          rintro e w8 ⟨rfl, h42⟩
          have Hm := Lib.hid ((marked_tr k Mk.white rp Hrk.out).use (h42.to (Q := MarkP k Mk.white * (VyP v Vy.none * (ArenaP i A * RowP 36 (.slice (some ⟨g, 0, none⟩) l.length cl) (l.map refV)))) (by simp only [SP.mul_assoc, SP.mul_left_comm, SP.mul_comm])))
          rw [show Mk.white.md rp = false from rfl] at Hm
          clear h42 Hc crx
          go_wp2_with fail
          refine Hm.out.mono ?_
          rintro e w9 ⟨rfl, h43⟩
          have H44 : Hid (St (VyP v Vy.none * ((MarkP k Mk.white * ArenaP i A) * RowP 36 (.slice (some ⟨g, 0, none⟩) l.length cl) (l.map refV))) F w9) := Lib.hid (h43.to (by simp only [SP.mul_assoc, SP.mul_left_comm, SP.mul_comm]))
          clear h43 Hm
          go_wp2_with fail
          go_roundg (l.length - (p + 1))
          case measure => have := Hg.out; omega
          case rel => exact ⟨p + 1, by omega, rfl, by go_num, H44.out⟩
        · obtain rfl : p = l.length := by omega
          obtain ⟨x0, hx0⟩ : ∃ r, l[0]? = some r := ⟨l[0], by simp⟩
          have hin : x0 ∈ l := List.mem_iff_getElem?.2 ⟨_, hx0⟩
          have hx0n : x0 ≠ 0 := fun e => Htk.out.2 (e ▸ hin)
          have Hri := Lib.hid (Hlt.out x0 (.inr hin))
          have Hrk : Hid (x0 < k.N) := Lib.hid (by rw [HN2.out, ← HvN.out]; exact Hri.out)
          obtain ⟨g, eg, _⟩ := (hst.to (SP.l3 _ _ _)).refAt hx0
          subst eg
          have hlk : ∀ (X Y : SP) W', St (X * (Y * RowP 36 (.slice (some ⟨g, 0, none⟩) l.length cl) (l.map refV))) F W' → W'.cell? ⟨g, 0, none⟩ = some (.int .i64 x0) := by
            intro X Y W' hW
            obtain ⟨_, e, c⟩ := (hW.to (SP.l3 _ _ _)).refAt hx0
            cases e
            exact c
          have hV : Vy.none.post v.room 0 x0 true = ⟨upd (fun _ => 0) x0 1, [], true⟩ := by
            rw [Hvr.out]
            unfold Vy.post Vy.dn Vy.up Vy.none
            simp [hx0n]
          have hok : VyOk l ⟨upd (fun _ => 0) x0 1, [], true⟩ := by
            have := (VyOk.none l).post v.room 0 true (.inr hin)
            rw [hV] at this
            exact this
          have hmk := fun r => hok.marks A (32 * A.np + 1) Htk.out.1 Htk.out.2 k.room Mk.white r
          have hlog : ∀ r ∈ (⟨upd (fun _ => 0) x0 1, [], true⟩ : Vy).log, r < v.N := fun r hr => by simp at hr
          have hrem := fun W (hW : St (VyP v ⟨upd (fun _ => 0) x0 1, [], true⟩ * ((MarkP k Mk.white * ArenaP i A) * RowP 36 (.slice (some ⟨g, 0, none⟩) l.length cl) (l.map refV))) F W) => (vyRemark_tr v _ k Mk.white i A Hvm.out Hka.out HvN.out HN2.out hlog).use (hW.to (SP.mul_assoc _ _ _).symm)
          generalize Mk.shades k.room Mk.white (vyRs A (32 * A.np + 1) ⟨upd (fun _ => 0) x0 1, [], true⟩) = M2 at *
          have hmd : M2.md = upd (fun _ => false) x0 true := by
            funext r
            rw [(hmk r).1]
            unfold upd
            by_cases e : r = x0
            · simp [e]
            · simp [e, Mk.white]
          have Hm1 : Hid (M2.md x0 = true) := Lib.hid (by rw [hmd, upd_same])
          have Hm2 : Hid (setCount M2.md k.N = 1) := Lib.hid (by rw [hmd]; exact setCount_one _ _ Hrk.out)
          have Hpost := Lib.hid ((vyPost_tr v Vy.none x0 0 x0 true false (Hlt.out _ (.inl rfl)) Hri.out).use hst.drew)
          rw [hV] at Hpost
          have Hlk := Lib.hid hlk
          have Hrem := Lib.hid hrem
          have Hst := Lib.hid hst
          clear hst hok hmk hlog hrem hV hmd hin hx0 hlk hx0n
          have hll : ¬ l.length ≤ 0 := by omega
          have hll2 : 0 < l.length := by omega
          go_wp2_with fail
          have hS := Hlk.out _ _ _ Hst.out.drew
          refine wp_region_held (S := fun W' => W'.cell? ⟨g, 0, none⟩ = some (.int .i64 x0)) (by kernel_rfl) ?_
          refine wpAnyH_take (i := 0) (v := _) rfl (by kernel_rfl) (by kernel_rfl) (by kernel_rfl) (fun _ _ _ h => h) (.inl ⟨rfl, fun W' hW => by have q1 : W'.cell? ⟨g, 0, none⟩ = some (.int .i64 x0) := hW; clear hW; go_simp; rfl⟩) hS ?_
          refine wpAnyH_take (i := 1) (v := _) rfl (by kernel_rfl) (by kernel_rfl) (by kernel_rfl) (fun _ _ _ h => h) (.inl ⟨rfl, fun W' hW => by have q1 : W'.cell? ⟨g, 0, none⟩ = some (.int .i64 x0) := hW; clear hW; go_simp; rfl⟩) hS ?_
          refine wpAnyH_take (i := 2) (v := _) rfl (by kernel_rfl) (by kernel_rfl) (by kernel_rfl) (fun _ _ _ h => h) (.inl ⟨rfl, fun W' hW => by have q1 : W'.cell? ⟨g, 0, none⟩ = some (.int .i64 x0) := hW; clear hW; go_simp; rfl⟩) hS ?_
          refine wpAnyH_take (i := 3) (v := _) rfl (by kernel_rfl) (by kernel_rfl) (by kernel_rfl) (fun _ _ _ h => h) (.inl ⟨rfl, fun W' hW => by have q1 : W'.cell? ⟨g, 0, none⟩ = some (.int .i64 x0) := hW; clear hW; go_simp; rfl⟩) hS ?_
          refine wpAnyH_take (i := 4) (v := _) rfl (by kernel_rfl) (by kernel_rfl) (by kernel_rfl) (fun _ _ _ h => h) (.inl ⟨rfl, fun W' hW => by have q1 : W'.cell? ⟨g, 0, none⟩ = some (.int .i64 x0) := hW; clear hW; go_simp; rfl⟩) hS ?_
          refine wpAnyH_take (i := 5) (v := _) rfl (by kernel_rfl) (by kernel_rfl) (by kernel_rfl) (fun _ _ _ h => h) (.inl ⟨rfl, fun W' hW => by have q1 : W'.cell? ⟨g, 0, none⟩ = some (.int .i64 x0) := hW; clear hW; go_simp; rfl⟩) hS ?_
          refine wpAnyH_take (i := 6) (v := _) rfl (by kernel_rfl) (by kernel_rfl) (by kernel_rfl) (fun _ _ _ h => h) (.inl ⟨rfl, fun W' hW => by have q1 : W'.cell? ⟨g, 0, none⟩ = some (.int .i64 x0) := hW; clear hW; go_simp; rfl⟩) hS ?_
          refine wpAnyH_take (i := 7) (v := _) rfl (by kernel_rfl) (by kernel_rfl) (by kernel_rfl) (fun _ _ _ h => h) (.inl ⟨rfl, fun W' hW => by have q1 : W'.cell? ⟨g, 0, none⟩ = some (.int .i64 x0) := hW; clear hW; go_simp; rfl⟩) hS ?_
          refine wpAnyH_all (rs := [8]) (by kernel_rfl) (by simp) (fun q hq => ?_)
          obtain rfl : q = 8 := by simpa using hq
          clear hq
          refine wpOp_step rfl (fun K' hK' => ?_)
          go_simp
          refine Hpost.out.mono ?_
          clear hS Hpost
          rintro e w6 ⟨rfl, h50⟩
          refine hK' _ _ ⟨Hlk.out _ _ _ h50, ?_⟩
          clear hK' K' Hst
          refine wpAnyH_done (by kernel_rfl) ?_ _
          have Hr := Lib.hid (Hrem.out _ h50)
          clear h50 Hrem
          go_wp2_with fail
          refine Hr.out.mono ?_
          rintro e w7 ⟨rfl, h50⟩
          have H51 : Hid (St (VyP v ⟨upd (fun _ => 0) x0 1, [], true⟩ * ((MarkP k M2 * ArenaP i A) * RowP 36 (.slice (some ⟨g, 0, none⟩) l.length cl) (l.map refV))) F w7) := Lib.hid (h50.to (SP.mul_assoc _ _ _))
          clear h50 Hr
          have Hc := Lib.hid ((vyOver_tr v ⟨upd (fun _ => 0) x0 1, [], true⟩).use H51.out)
          go_wp2_with fail
          refine Hc.out.mono ?_
          rintro e w8 ⟨rfl, h52⟩
          clear Hc H51
          have c0 := Hlk.out _ _ _ h52
          have Hc := Lib.hid ((vyCount_tr v ⟨upd (fun _ => 0) x0 1, [], true⟩ x0 Hri.out).use h52)
          dsimp only at Hc
          rw [upd_same] at Hc
          clear h52
          go_wp2_with fail
          refine Hc.out.mono ?_
          rintro e w9 ⟨rfl, h52⟩
          clear Hc c0
          have c0 := Hlk.out _ _ _ h52
          have Hc := Lib.hid ((marked_tr k M2 x0 Hrk.out).use (h52.to (Q := MarkP k M2 * (VyP v ⟨upd (fun _ => 0) x0 1, [], true⟩ * (ArenaP i A * RowP 36 (.slice (some ⟨g, 0, none⟩) l.length cl) (l.map refV)))) (by simp only [SP.mul_assoc, SP.mul_left_comm, SP.mul_comm])))
          rw [Hm1.out] at Hc
          clear h52
          go_wp2_with fail
          refine Hc.out.mono ?_
          rintro e w10 ⟨rfl, h52⟩
          clear Hc c0
          have Hc := Lib.hid ((mkCount_tr k M2).use h52)
          rw [Hm2.out] at Hc
          clear h52
          go_wp2_with fail
          refine Hc.out.mono ?_
          rintro e w11 ⟨rfl, h52⟩
          clear Hc
          go_wp2_with fail
          go_ret
          exact ⟨rfl, h52.frame⟩
end Go.Proofs.Ytknmlfolbapmpaa
