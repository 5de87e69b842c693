import Derived.Test.YtknmlfolbapmpaaVr
namespace Go.Proofs.Ytknmlfolbapmpaa
open Go Go.RowKit

/-- An object's net count is no more than its count, or that stays. -/
def VeOk (V : Vy) (net : Int → Int) : Prop := (∀ r, V.cnt r ≤ 3) ∧ ∀ r : Nat, r ≠ 0 → V.cnt r = 3 ∨ net (r : Int) ≤ V.cnt r
theorem VeOk.up {V : Vy} {net : Int → Int} (h : VeOk V net) (room z : Nat) : VeOk (V.up room z) (updI net (z : Int) (net z + 1)) := by
  refine ⟨fun r => ?_, fun r hr => ?_⟩
  · unfold Vy.up upd
    dsimp only
    split
    · omega
    · exact h.1 r
  · have hz := h.1 z
    unfold Vy.up upd updI
    dsimp only
    by_cases e : r = z
    · subst e
      rw [if_pos rfl, if_pos rfl]
      have := h.2 r hr
      omega
    · rw [if_neg e, if_neg (by omega)]
      exact h.2 r hr
theorem VeOk.dn {V : Vy} {net : Int → Int} (h : VeOk V net) (y : Nat) : VeOk (V.dn y) (updI net (y : Int) (net y - 1)) := by
  have key : ∀ r : Nat, r ≠ 0 → r ≠ y → V.cnt r = 3 ∨ updI net (y : Int) (net y - 1) (r : Int) ≤ V.cnt r := by
    intro r hr e
    unfold updI
    rw [if_neg (by omega)]
    exact h.2 r hr
  unfold Vy.dn
  split
  · rename_i hy
    refine ⟨fun r => ?_, fun r hr => ?_⟩
    · dsimp only [upd]
      split
      · omega
      · exact h.1 r
    · by_cases e : r = y
      · subst e
        have := h.2 r hr
        simp only [upd, updI, if_true]
        omega
      · have := key r hr e
        simp only [upd, if_neg e]
        exact this
  · rename_i hy
    refine ⟨h.1, fun r hr => ?_⟩
    by_cases e : r = y
    · subst e
      have := h.2 r hr
      have := h.1 r
      simp only [updI, if_true]
      omega
    · exact key r hr e
theorem VeOk.post {V : Vy} {net : Int → Int} (h : VeOk V net) (room y z : Nat) : VeOk (V.post room y z true) (updI (updI net (z : Int) (net z + 1)) (y : Int) (updI net (z : Int) (net z + 1) y - 1)) := by
  unfold Vy.post
  rw [if_pos rfl]
  split
  · rename_i e
    subst e
    refine VeOk.dn ⟨h.1, fun r hr => ?_⟩ y
    have : ¬ (r : Int) = ((0 : Nat) : Int) := by omega
    simp only [updI, if_neg this]
    exact h.2 r hr
  · exact (h.up room z).dn y
theorem net_bound {net : Int → Int} {n : Nat} (h : ∀ z, -(n : Int) ≤ net z ∧ net z ≤ n) (y z : Int) : ∀ x, -((n + 1 : Nat) : Int) ≤ updI (updI net z (net z + 1)) y (updI net z (net z + 1) y - 1) x ∧ updI (updI net z (net z + 1)) y (updI net z (net z + 1) y - 1) x ≤ ((n + 1 : Nat) : Int) := by
  intro x
  have h1 := h x
  have h2 := h y
  have h3 := h z
  unfold updI
  split <;> split <;> omega
/-- A map of whole numbers. -/
def NetF (f : Int → Option Value) (net : Int → Int) : Prop := ∀ z, (f z).getD (.int .i64 0) = .int .i64 (net z)
theorem NetF.put {f : Int → Option Value} {net : Int → Int} (h : NetF f net) (z v : Int) : NetF (updI f z (some (.int .i64 v))) (updI net z v) := by
  intro x
  unfold updI
  split
  · rfl
  · exact h x
theorem St.netGet {mb j : Nat} {f : Int → Option Value} {net : Int → Int} {R : SP} {F : Fr} {w : World} (h : St (MapP mb j f * R) F w) (hf : NetF f net) (z : Int) :
    (Instr.lookup 35 (.map (some mb)) (.int .i64 z) false).run Try.prog w = .ok (.int .i64 (net z)) w := by
  obtain ⟨ii, hii, hiz, _, _⟩ := info_parts info_int
  have hlook := h.look (P := Try.prog) Try.underlying35 Try.underlying36 hii hiz z
  rw [hf z] at hlook
  exact hlook
theorem St.netPut {mb j : Nat} {f : Int → Option Value} {net : Int → Int} {R : SP} {F : Fr} {w : World} (h : St (MapP mb j f * R) F w) (hf : NetF f net) (z v : Int) :
    ∃ w' j' f', (Instr.mapUpdate 35 (.map (some mb)) (.int .i64 z) (.int .i64 v)).run Try.prog w = .ok () w' ∧ NetF f' (updI net z v) ∧ St (MapP mb j' f' * R) F w' := by
  obtain ⟨w', hput, h2⟩ := h.put (P := Try.prog) Try.underlying35 Try.underlying36 z (.int .i64 v)
  exact ⟨w', _, _, hput, hf.put z v, h2⟩

set_option maxRecDepth 100000 in
set_option maxHeartbeats 40000000 in
/-- VybEnough: an object that more black ones were made to point to than were made to point elsewhere is shaded. -/
theorem vybEnough (F : Fr) (v1 v2 v_ws : Value) (fs : List Nat) (es : List (Nat × Nat × Nat)) (ws : List (Nat × Nat × Nat × Nat)) (rm : Nat) (h1 : InBytes F v1 fs) (h2 : InTriples F v2 es) (h_ws : InQuads F v_ws ws) (h_rm : rm < 256)
    (w : World) (h : St 1 F w) : Calls Try.prog 7 #[.agg #[v1, v2], v_ws, .int .u8 (rm : Int)] w fun e w' => e = .returned (.bool true) ∧ St 1 F w' := by
  obtain ⟨o1, c1, rfl, H1⟩ := id h1
  obtain ⟨o2, c2, rfl, H2⟩ := id h2
  obtain ⟨o_ws, c_ws, rfl, h_ws⟩ := h_ws
  clear H1 H2
  have H1 := Lib.hid h1
  have H2 := Lib.hid h2
  have H_ws := Lib.hid h_ws
  clear h1 h2 h_ws
  have hb := h.mul1.alloc (.cells #[.slice o1 fs.length c1, .slice o2 es.length c2] 25)
  have Hb := Lib.hid hb
  clear h hb
  go_enter Try.func7, Try.ntmps7
  go_wp2_with fail
  refine (vyFit.use (Hb.out.mul1.to (SP.mul_comm _ _))).mono ?_
  rintro e w1 ⟨rfl, h5⟩
  have h6 : St (pts w.heap.size (.cells #[.slice o1 fs.length c1, .slice o2 es.length c2] 25 (0, 0)) * 1) F w1 := h5.to (by simp only [SP.one_mul, SP.mul_one])
  have cg0 : w1.cell? ⟨w.heap.size, 0, none⟩ = some (.slice o1 fs.length c1) := by rw [cell_of h6.at]; rfl
  have cg1 : w1.cell? ⟨w.heap.size, 1, none⟩ = some (.slice o2 es.length c2) := by rw [cell_of h6.at]; rfl
  have hsm := (small_tr o1 o2 fs.length c1 es.length c2).use (h6.mul1.to (SP.mul_comm _ _))
  have Hsm := Lib.hid hsm
  clear h5 h6 hsm Hb
  have Hsm := Hsm.out
  by_cases hs : fs.length ≤ 40 ∧ es.length ≤ 120
  case neg =>
    have e1 : (decide (fs.length ≤ 40) && decide (es.length ≤ 120)) = false := by
      rcases Classical.not_and_iff_not_or_not.1 hs with h | h <;> simp [h]
    rw [e1] at Hsm
    have Hsm := Lib.hid Hsm
    rename_i Hsm0
    clear Hsm0 e1
    go_wp2_with fail
    refine Hsm.out.mono ?_
    rintro e w2 ⟨rfl, h7⟩
    clear Hsm
    go_wp2_with fail
    go_ret
    exact ⟨rfl, h7.drop⟩
  have e1 : (decide (fs.length ≤ 40) && decide (es.length ≤ 120)) = true := by simp [hs.1, hs.2]
  rw [e1] at Hsm
  have Hsm := Lib.hid Hsm
  rename_i Hsm0
  clear Hsm0 e1
  by_cases g_ws : ws.length ≤ 60
  case neg =>
    have g_ws' : (60 : Int) < ws.length := by omega
    go_wp2_with fail
    refine Hsm.out.mono ?_
    rintro e w2 ⟨rfl, h7⟩
    clear Hsm
    go_wp2_with fail
    go_ret
    exact ⟨rfl, h7.drop⟩
  have g_ws' : ¬ (60 : Int) < ws.length := by omega
  go_wp2_with fail
  refine Hsm.out.mono ?_
  rintro e w2 ⟨rfl, h7⟩
  clear Hsm
  have h8 : St (pts w.heap.size (.cells #[.slice o1 fs.length c1, .slice o2 es.length c2] 25 (0, 0)) * 1) F w2 := h7.to (by simp only [SP.one_mul, SP.mul_one])
  have cg0 : w2.cell? ⟨w.heap.size, 0, none⟩ = some (.slice o1 fs.length c1) := by rw [cell_of h8.at]; rfl
  have cg1 : w2.cell? ⟨w.heap.size, 1, none⟩ = some (.slice o2 es.length c2) := by rw [cell_of h8.at]; rfl
  have H8 : Hid (St 1 F w2) := Lib.hid h8.drop2
  clear h7 h8
  go_wp2_with fail
  refine (made F _ _ fs es H1.out H2.out hs.1 hs.2 _ H8.out).mono ?_
  rintro e w3 ⟨i, A, l, v, m, hM, rfl, h9⟩
  have h10 : St (RowP 36 v (l.map refV) * ArenaP i A) F w3 := ((h9.to (SP.mul_assoc _ _ _).symm).drop).to (SP.mul_comm _ _)
  obtain ⟨ol, cl, hv⟩ := h10.rowSlice
  rw [List.length_map] at hv
  subst hv
  have HM := Lib.hid hM
  have H10 := Lib.hid h10
  have Hlen : Hid (l.length ≤ 40) := Lib.hid (by have := hM.len; have := hs.1; omega)
  clear h9 h10 hM H8 cg0 cg1
  by_cases hl0 : l.length = 0
  case pos =>
    have hlb : ((l.length : Int) == 0) = true := by simp [hl0]
    go_wp2_with fail
    go_ret
    exact ⟨rfl, H10.out.frame⟩
  have hlb : ((l.length : Int) == 0) = false := by rw [beq_eq_false_iff_ne]; omega
  go_wp2_with fail
  refine ((mkNew_tr i A 64 (by decide)).use (H10.out.to (SP.mul_comm _ _))).mono ?_
  rintro e w4 ⟨k, rfl, hx⟩
  obtain ⟨⟨hka, hN, hroom⟩, h11⟩ := St.whm.1 hx
  have HN : Hid (k.N = 2049) := Lib.hid (by rw [hN, HM.out.np])
  have Hka := Lib.hid hka
  have Hroom := Lib.hid hroom
  have h12 : St (MarkP k Mk.white * (RowP 36 (.slice ol l.length cl) (l.map refV) * ArenaP i A)) F w4 := h11.to (by unfold Mk.white; simp only [SP.mul_assoc, SP.mul_left_comm, SP.mul_comm])
  have H12 := Lib.hid h12
  clear hx hN hka hroom h11 h12 H10
  have hr1 : Int.tmod (rm : Int) 20 = ((rm % 20 : Nat) : Int) := by rw [Int.tmod_eq_emod_of_nonneg (by omega)]; omega
  have hr8 : rm % 20 < 20 := Nat.mod_lt _ (by decide)
  generalize rm % 20 = room at *
  have hr2 : IntKind.u8.wrap (room : Int) = room := by rw [IntKind.wrap_u8]; omega
  have hr3 : IntKind.i64.wrap (room : Int) = room := by rw [IntKind.wrap_i64]; omega
  have hr4 : IntKind.i64.wrap ((room : Int) - 3) = (room : Int) - 3 := by rw [IntKind.wrap_i64]; omega
  have Htk := Lib.hid HM.out.tks
  have HN2 : Hid (k.N = 32 * A.np + 1) := Lib.hid (by rw [HN.out, HM.out.np])
  have hmk := fun W : World => run_makeMap (P := Try.prog) 35 W
  go_wp2_with fail
  refine ((vyNew_tr k Mk.white i A Hka.out (by rw [HM.out.np]; decide) ((room : Int) - 3) (by omega) (by omega)).use (H12.out.to (Q := (MarkP k Mk.white * ArenaP i A) * RowP 36 (.slice ol l.length cl) (l.map refV)) (by simp only [SP.mul_assoc, SP.mul_left_comm, SP.mul_comm]))).mono ?_
  rintro e w5 ⟨v, rfl, h13⟩
  obtain ⟨⟨hvm, hvN, hvr⟩, h14⟩ := St.whm.1 h13
  have Hvm := Lib.hid hvm
  have HvN := Lib.hid hvN
  have h15 := (h14.to (SP.mul_assoc _ _ _)).mapNew
  have Hlt : Hid (∀ r, r = 0 ∨ r ∈ l → r < v.N) := Lib.hid (by
    intro r hr
    rw [HvN.out]
    rcases hr with rfl | hr
    · omega
    · exact (Htk.out.1 r hr).1)
  have H15 := Lib.hid h15
  clear h13 h14 H12 hvm hvN hvr h15
  go_wp2_with fail
  generalize w5.alloc (.map #[] 0) = w6 at *
  generalize w5.heap.size = mb at *
  go_loopg [48] ws.length (fun g s wr => ∃ (n : Nat) (V : Vy) (net : Int → Int) (j : Nat) (f : Int → Option Value), n ≤ ws.length ∧ g = ws.length - n ∧ s = .int .i64 n ∧ (VyOk l V ∧ VeOk V net ∧ NetF f net ∧ ∀ z, -(n : Int) ≤ net z ∧ net z ≤ n) ∧ St (MapP mb j f * (VyP v V * ((MarkP k Mk.white * ArenaP i A) * RowP 36 (.slice ol l.length cl) (l.map refV)))) F wr)
  case atStart => exact ⟨0, Vy.none, fun _ => 0, 0, fun _ => none, Nat.zero_le _, rfl, rfl, ⟨VyOk.none _, ⟨fun _ => Nat.zero_le _, fun _ _ => .inr (Int.le_refl _)⟩, fun _ => rfl, fun _ => ⟨by simp, by simp⟩⟩, H15.out⟩
  case round =>
    clear H15
    obtain ⟨n, V, net, j, f, hn, hg, rfl, hok, hst⟩ := hrel
    have Hst := Lib.hid hst
    have Hok := Lib.hid hok
    have Hg := Lib.hid hg
    clear hst hg hok
    by_cases hlt : n < ws.length
    · have hlt' : (n : Int) < ws.length := by omega
      have hw3 : IntKind.i64.wrap ((n : Int) + 1) = ((n + 1 : Nat) : Int) := by rw [IntKind.wrap_i64]; omega
      have hn0 : 0 ≤ (n : Int) := by omega
      obtain ⟨x, a, hx, ho, hx4, cx1, cx2, cx3, cx4⟩ := InQuads.next H_ws.out Hst.out hlt
      have Hx4 := Lib.hid hx4
      subst ho
      clear hx hx4
      have h31 : St (RowP 36 (.slice ol l.length cl) (l.map refV) * (MapP mb j f * (VyP v V * (MarkP k Mk.white * ArenaP i A)))) F (wr.alloc (.cells #[.int .u8 x.1, .int .u8 x.2.1, .int .u8 x.2.2.1, .int .u8 x.2.2.2] 50)) :=
        ((Hst.out.alloc (.cells #[.int .u8 x.1, .int .u8 x.2.1, .int .u8 x.2.2.1, .int .u8 x.2.2.2] 50)).drop2).to (SP.l4 _ _ _ _)
      have Hw := Lib.hid (write_use hl0 Hlen.out x Hx4.out h31)
      clear h31
      go_wp2_with fail
      refine Hw.out.mono ?_
      rintro e w6 ⟨rx, ry, rz, bk, rfl, hm, h32⟩
      have Hm := Lib.hid hm
      have h33 := h32.alloc (.cells #[.int .i64 rx, .int .i64 ry, .int .i64 rz, .bool bk, .bool false] 45)
      have H33 := Lib.hid (h33.to (Q := VyP v V * (pts w6.heap.size (.cells #[.int .i64 rx, .int .i64 ry, .int .i64 rz, .bool bk, .bool false] 45 (0, 0)) * (MapP mb j f * ((MarkP k Mk.white * ArenaP i A) * RowP 36 (.slice ol l.length cl) (l.map refV))))) (by simp only [SP.mul_assoc, SP.mul_left_comm, SP.mul_comm]))
      clear hm h32 h33 Hw cx1 cx2 cx3 cx4 Hst
      go_wp2_with fail
      generalize w6.alloc (.cells #[.int .i64 rx, .int .i64 ry, .int .i64 rz, .bool bk, .bool false] 45) = w7 at *
      generalize w6.heap.size = nb at *
      refine ((vyPost_tr v V rx ry rz bk false (Hlt.out _ Hm.out.2.1) (Hlt.out _ Hm.out.2.2)).use H33.out).mono ?_
      rintro e w8 ⟨rfl, h34⟩
      have hp := (h34.to (SP.mul_left_comm _ _ _)).at
      have c1 : w8.cell? ⟨nb, 1, none⟩ = some (.int .i64 ry) := by rw [cell_of hp]; rfl
      have c2 : w8.cell? ⟨nb, 2, none⟩ = some (.int .i64 rz) := by rw [cell_of hp]; rfl
      have c3 : w8.cell? ⟨nb, 3, none⟩ = some (.bool bk) := by rw [cell_of hp]; rfl
      have H34 : Hid (St (MapP mb j f * (pts nb (.cells #[.int .i64 rx, .int .i64 ry, .int .i64 rz, .bool bk, .bool false] 45 (0, 0)) * (VyP v (V.post v.room ry rz bk) * ((MarkP k Mk.white * ArenaP i A) * RowP 36 (.slice ol l.length cl) (l.map refV))))) F w8) := Lib.hid (h34.to (by simp only [SP.mul_assoc, SP.mul_left_comm, SP.mul_comm]))
      clear h34 H33 hp
      cases bk
      · have H35 := Lib.hid ((H34.out.to (SP.mul_left_comm _ _ _)).drop2)
        clear H34
        go_wp2_with fail
        go_roundg (ws.length - (n + 1))
        case measure => have := Hg.out; omega
        case rel => exact ⟨n + 1, V, net, j, f, by omega, rfl, by go_num, ⟨Hok.out.1, Hok.out.2.1, Hok.out.2.2.1, fun z => by have := Hok.out.2.2.2 z; omega⟩, H35.out⟩
      · have hbn := Hok.out.2.2.2
        have hbz := hbn rz
        have hwz : IntKind.i64.wrap (net rz + 1) = net rz + 1 := by rw [IntKind.wrap_i64]; omega
        have hnf := Hok.out.2.2.1
        have hlz := H34.out.netGet hnf rz
        obtain ⟨w9, j2, f2, hput1, hnf2, h35⟩ := H34.out.netPut hnf rz (net rz + 1)
        have hp := (h35.to (SP.mul_left_comm _ _ _)).at
        have d1 : w9.cell? ⟨nb, 1, none⟩ = some (.int .i64 ry) := by rw [cell_of hp]; rfl
        have hly := h35.netGet hnf2 ry
        have hwy : IntKind.i64.wrap (updI net rz (net rz + 1) ry - 1) = updI net rz (net rz + 1) ry - 1 := by
          have h1 := hbn ry
          rw [IntKind.wrap_i64]
          unfold updI
          split <;> omega
        obtain ⟨w10, j3, f3, hput2, hnf3, h36⟩ := h35.netPut hnf2 ry (updI net rz (net rz + 1) ry - 1)
        have Hnf3 := Lib.hid hnf3
        have H36 := Lib.hid (h36.to (SP.mul_left_comm _ _ _)).drop2
        have Hbn := Lib.hid (net_bound hbn ry rz)
        have Hve := Lib.hid (Hok.out.2.1.post v.room ry rz)
        have hwz2 : wrap64 (net rz + 1) = net rz + 1 := IntWalk.wrap64_in _ (by omega)
        have hwy2 : wrap64 (updI net rz (net rz + 1) ry - 1) = updI net rz (net rz + 1) ry - 1 := by
          have h1 := hbn ry
          refine IntWalk.wrap64_in _ ?_
          unfold updI
          split <;> omega
        generalize hvz : net rz + 1 = vz at *
        generalize updI net rz vz ry = uy at *
        clear hbn hbz hnf hnf2 hnf3 h35 h36 hp H34
        go_wp2_with fail
        go_roundg (ws.length - (n + 1))
        case measure => have := Hg.out; omega
        case rel => exact ⟨n + 1, _, _, j3, f3, by omega, rfl, by go_num, ⟨Hok.out.1.post _ _ _ Hm.out.2.2, Hve.out, Hnf3.out, Hbn.out⟩, H36.out⟩
    · obtain rfl : n = ws.length := by omega
      have hok := Hok.out.1
      have hmk := fun r => hok.marks A (32 * A.np + 1) Htk.out.1 Htk.out.2 k.room Mk.white r
      have Hlog : Hid (∀ r ∈ V.log, r < v.N) := Lib.hid (fun r hr => Hlt.out r (.inr (hok.log r hr)))
      have hrem := (vyRemark_tr v V k Mk.white i A Hvm.out Hka.out HvN.out HN2.out Hlog.out).use (Hst.out.to (Q := (VyP v V * (MarkP k Mk.white * ArenaP i A)) * (MapP mb j f * RowP 36 (.slice ol l.length cl) (l.map refV))) (by simp only [SP.mul_assoc, SP.mul_left_comm, SP.mul_comm]))
      generalize Mk.shades k.room Mk.white (vyRs A (32 * A.np + 1) V) = M2 at *
      have hmd : ∀ r, r ∈ l → 0 < net (r : Int) → M2.md r = true := fun r hr hn => by
        rw [(hmk r).1]
        have h0 : r ≠ 0 := fun e => Htk.out.2 (e ▸ hr)
        have := Hok.out.2.1.2 r h0
        have : 0 < V.cnt r := by omega
        simp [this]
      have Hrem := Lib.hid hrem
      have Hmd := Lib.hid hmd
      have Hnf := Lib.hid Hok.out.2.2.1
      clear hok hmk Hlog hrem hmd Hst Hok Hg
      go_wp2_with fail
      refine Hrem.out.mono ?_
      rintro e w7 ⟨rfl, h40⟩
      have h41 : St (MarkP k M2 * (MapP mb j f * RowP 36 (.slice ol l.length cl) (l.map refV))) F w7 :=
        (h40.to (Q := MarkP k M2 * (MapP mb j f * RowP 36 (.slice ol l.length cl) (l.map refV)) * (VyP v V * ArenaP i A)) (by simp only [SP.mul_assoc, SP.mul_left_comm, SP.mul_comm])).drop
      clear h40 Hrem
      go_wp2_with fail
      go_loopg [75] l.length (fun g s wr => ∃ (p : Nat), p ≤ l.length ∧ g = l.length - p ∧ s = .int .i64 p ∧ St (MarkP k M2 * (MapP mb j f * RowP 36 (.slice ol l.length cl) (l.map refV))) F wr)
      case atStart => exact ⟨0, Nat.zero_le _, rfl, rfl, h41⟩
      case round =>
        clear h41
        obtain ⟨p, hp, hg, rfl, hst⟩ := hrel
        have Hg := Lib.hid hg
        clear hg
        by_cases hlp : p < l.length
        · have hlp' : (p : Int) < l.length := by omega
          have hw4 : IntKind.i64.wrap ((p : Int) + 1) = ((p + 1 : Nat) : Int) := by have := Hlen.out; rw [IntKind.wrap_i64]; omega
          have hp0 : 0 ≤ (p : Int) := by omega
          obtain ⟨rp, hrp⟩ : ∃ r, l[p]? = some r := ⟨l[p], by simp [hlp]⟩
          have Hin := Lib.hid (List.mem_iff_getElem?.2 ⟨_, hrp⟩)
          have Hri := Lib.hid (Hlt.out rp (.inr Hin.out))
          have Hrk : Hid (rp < k.N) := Lib.hid (by rw [HN2.out, ← HvN.out]; exact Hri.out)
          obtain ⟨g, eg, crx⟩ := (hst.to (SP.l3 _ _ _)).refAt hrp
          subst eg
          have hlk := (hst.to (SP.mul_left_comm _ _ _)).netGet Hnf.out rp
          by_cases hnet : 0 < net rp
          · have Hm := Lib.hid ((marked_tr k M2 rp Hrk.out).use hst)
            rw [Hmd.out rp Hin.out hnet] at Hm
            clear hst hrp
            go_wp2_with fail
            refine Hm.out.mono ?_
            rintro e w8 ⟨rfl, h42⟩
            have H44 := Lib.hid h42
            clear h42 Hm
            go_wp2_with fail
            go_roundg (l.length - (p + 1))
            case measure => have := Hg.out; omega
            case rel => exact ⟨p + 1, by omega, rfl, by go_num, H44.out⟩
          · have H44 := Lib.hid hst
            clear hst hrp
            go_wp2_with fail
            go_roundg (l.length - (p + 1))
            case measure => have := Hg.out; omega
            case rel => exact ⟨p + 1, by omega, rfl, by go_num, H44.out⟩
        · obtain rfl : p = l.length := by omega
          have H44 := Lib.hid hst
          clear hst
          go_wp2_with fail
          go_ret
          exact ⟨rfl, H44.out.frame⟩
end Go.Proofs.Ytknmlfolbapmpaa
