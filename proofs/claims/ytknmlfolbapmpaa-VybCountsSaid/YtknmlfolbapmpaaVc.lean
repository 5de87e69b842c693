import Derived.Test.YtknmlfolbapmpaaVw
namespace Go.Proofs.Ytknmlfolbapmpaa
open Go Go.RowKit

theorem popw_white' (n : Nat) : setCount Mk.white.md n = 0 := popw_none _ (fun _ => rfl) _
/-- A map that reads as a barrier's counts. -/
def CtF (f : Int → Option Value) (V : Vy) : Prop := ∀ r : Nat, (f (r : Int)).getD (.int .i64 0) = .int .i64 (V.cnt r)
theorem St.ctGet {mb j : Nat} {f : Int → Option Value} {V : Vy} {R : SP} {F : Fr} {w : World} (h : St (MapP mb j f * R) F w) (hf : CtF f V) (r : Nat) :
    (Instr.lookup 35 (.map (some mb)) (.int .i64 (r : Int)) false).run Try.prog w = .ok (.int .i64 (V.cnt r)) w := by
  obtain ⟨ii, hii, hiz, _, _⟩ := info_parts info_int
  have hlook := h.look (P := Try.prog) Try.underlying35 Try.underlying36 hii hiz (r : Int)
  rw [hf r] at hlook
  exact hlook
theorem CtF.put {f : Int → Option Value} {V V' : Vy} (h : CtF f V) (r : Nat) (x : Nat) (hV : ∀ q, V'.cnt q = if q = r then x else V.cnt q) : CtF (updI f (r : Int) (some (.int .i64 (x : Int)))) V' := by
  intro q
  rw [hV q]
  unfold updI
  by_cases e : q = r
  · subst e; simp
  · rw [if_neg (by omega), if_neg e]; exact h q
theorem St.ctPut {mb j : Nat} {f : Int → Option Value} {V V' : Vy} {R : SP} {F : Fr} {w : World} (h : St (MapP mb j f * R) F w) (hf : CtF f V) (r x : Nat) (v : Int) (hv : v = (x : Int)) (hV : ∀ q, V'.cnt q = if q = r then x else V.cnt q) :
    ∃ w' j' f', (Instr.mapUpdate 35 (.map (some mb)) (.int .i64 (r : Int)) (.int .i64 v)).run Try.prog w = .ok () w' ∧ CtF f' V' ∧ St (MapP mb j' f' * R) F w' := by
  subst hv
  obtain ⟨w', hput, h2⟩ := h.put (P := Try.prog) Try.underlying35 Try.underlying36 (r : Int) (.int .i64 (x : Int))
  exact ⟨w', _, _, hput, hf.put r x hV, h2⟩
/-- Count, of what there is not. -/
theorem vyCount_out (i : VyId) (V : Vy) (r : Int) (hr : r < 0 ∨ (i.N : Int) ≤ r) : Tr0 Try.prog 53 #[.pointer (some ⟨i.b, 0, none⟩), .int .i64 r] (VyP i V) (.int .i64 0) (VyP i V) := by
  intro F w h
  obtain ⟨lv, hb, h1⟩ := St.vy.1 h.mul1
  obtain ⟨_, c1, _⟩ := h1.vyB
  clear hb h1
  by_cases h0 : r < 0
  · go_enter Try.func53, Try.ntmps53
    go_wp2_with fail
    go_ret
    exact ⟨rfl, h⟩
  · have hn : (i.N : Int) ≤ r := by omega
    have hn' : ¬ r < i.N := by omega
    go_enter Try.func53, Try.ntmps53
    go_wp2_with fail
    go_ret
    exact ⟨rfl, h⟩
/-- Of a barrier before what is taken away counts. -/
def Vy.half (room : Nat) (V : Vy) (z : Nat) : Vy := if z = 0 then V else V.up room z
theorem Vy.post_half (room : Nat) (V : Vy) (y z : Nat) : V.post room y z true = (V.half room z).dn y := rfl
theorem half_over {room lg : Nat} {V : Vy} (h1 : V.over = decide (room < lg)) (h2 : V.log.length = min lg room) (z : Nat) (hz : z ≠ 0) : (V.half room z).over = decide (room < lg + 1) ∧ (V.half room z).log.length = min (lg + 1) room := by
  unfold Vy.half Vy.up
  rw [if_neg hz]
  dsimp only
  by_cases e : V.log.length < room
  · rw [if_pos e, if_pos e, h1, List.length_append]
    refine ⟨?_, by simp; omega⟩
    rw [decide_eq_false (by omega), decide_eq_false (by omega)]
  · rw [if_neg e, if_neg e]
    exact ⟨by rw [decide_eq_true (by omega)], by omega⟩
theorem dn_over (V : Vy) (y : Nat) : (V.dn y).over = V.over ∧ (V.dn y).log = V.log := by
  unfold Vy.dn
  split <;> exact ⟨rfl, rfl⟩
theorem half_cnt (room : Nat) (V : Vy) (z : Nat) (hz : z ≠ 0) : ∀ q, (V.half room z).cnt q = if q = z then min (V.cnt z + 1) 3 else V.cnt q := by
  intro q
  unfold Vy.half Vy.up upd
  rw [if_neg hz]
theorem dn_cnt (V : Vy) (y : Nat) (hy : y ≠ 0) (h1 : 0 < V.cnt y) (h3 : V.cnt y < 3) : ∀ q, (V.dn y).cnt q = if q = y then V.cnt y - 1 else V.cnt q := by
  intro q
  unfold Vy.dn upd
  rw [if_pos ⟨hy, h1, h3⟩]

/-- Does what is taken away count less? -/
def dnB (V : Vy) (y : Nat) : Bool := decide (y ≠ 0 ∧ 0 < V.cnt y ∧ V.cnt y < 3)

set_option maxRecDepth 100000 in
set_option maxHeartbeats 40000000 in
/-- VybCounts: counts go up and down as black objects are written to, stay at their most, and never fall below nothing; the log runs over when it is full. -/
theorem vybCounts (F : Fr) (v1 v2 v_ws : Value) (fs : List Nat) (es : List (Nat × Nat × Nat)) (ws : List (Nat × Nat × Nat × Nat)) (rm : Nat) (h1 : InBytes F v1 fs) (h2 : InTriples F v2 es) (h_ws : InQuads F v_ws ws) (h_rm : rm < 256)
    (w : World) (h : St 1 F w) : Calls Try.prog 16 #[.agg #[v1, v2], v_ws, .int .u8 (rm : Int)] w fun e w' => e = .returned (.bool true) ∧ St 1 F w' := by
  obtain ⟨o1, c1, rfl, H1⟩ := id h1
  obtain ⟨o2, c2, rfl, H2⟩ := id h2
  obtain ⟨o_ws, c_ws, rfl, h_ws⟩ := h_ws
  clear H1 H2
  have H1 := Lib.hid h1
  have H2 := Lib.hid h2
  have H_ws := Lib.hid h_ws
  clear h1 h2 h_ws
  have hb := h.mul1.alloc (.cells #[.slice o1 fs.length c1, .slice o2 es.length c2] 25)
  have Hb := Lib.hid hb
  clear h hb
  go_enter Try.func16, Try.ntmps16
  go_wp2_with fail
  refine (vyFit.use (Hb.out.mul1.to (SP.mul_comm _ _))).mono ?_
  rintro e w1 ⟨rfl, h5⟩
  have h6 : St (pts w.heap.size (.cells #[.slice o1 fs.length c1, .slice o2 es.length c2] 25 (0, 0)) * 1) F w1 := h5.to (by simp only [SP.one_mul, SP.mul_one])
  have cg0 : w1.cell? ⟨w.heap.size, 0, none⟩ = some (.slice o1 fs.length c1) := by rw [cell_of h6.at]; rfl
  have cg1 : w1.cell? ⟨w.heap.size, 1, none⟩ = some (.slice o2 es.length c2) := by rw [cell_of h6.at]; rfl
  have hsm := (small_tr o1 o2 fs.length c1 es.length c2).use (h6.mul1.to (SP.mul_comm _ _))
  have Hsm := Lib.hid hsm
  clear h5 h6 hsm Hb
  have Hsm := Hsm.out
  by_cases hs : fs.length ≤ 40 ∧ es.length ≤ 120
  case neg =>
    have e1 : (decide (fs.length ≤ 40) && decide (es.length ≤ 120)) = false := by
      rcases Classical.not_and_iff_not_or_not.1 hs with h | h <;> simp [h]
    rw [e1] at Hsm
    have Hsm := Lib.hid Hsm
    rename_i Hsm0
    clear Hsm0 e1
    go_wp2_with fail
    refine Hsm.out.mono ?_
    rintro e w2 ⟨rfl, h7⟩
    clear Hsm
    go_wp2_with fail
    go_ret
    exact ⟨rfl, h7.drop⟩
  have e1 : (decide (fs.length ≤ 40) && decide (es.length ≤ 120)) = true := by simp [hs.1, hs.2]
  rw [e1] at Hsm
  have Hsm := Lib.hid Hsm
  rename_i Hsm0
  clear Hsm0 e1
  by_cases g_ws : ws.length ≤ 60
  case neg =>
    have g_ws' : (60 : Int) < ws.length := by omega
    go_wp2_with fail
    refine Hsm.out.mono ?_
    rintro e w2 ⟨rfl, h7⟩
    clear Hsm
    go_wp2_with fail
    go_ret
    exact ⟨rfl, h7.drop⟩
  have g_ws' : ¬ (60 : Int) < ws.length := by omega
  go_wp2_with fail
  refine Hsm.out.mono ?_
  rintro e w2 ⟨rfl, h7⟩
  clear Hsm
  have h8 : St (pts w.heap.size (.cells #[.slice o1 fs.length c1, .slice o2 es.length c2] 25 (0, 0)) * 1) F w2 := h7.to (by simp only [SP.one_mul, SP.mul_one])
  have cg0 : w2.cell? ⟨w.heap.size, 0, none⟩ = some (.slice o1 fs.length c1) := by rw [cell_of h8.at]; rfl
  have cg1 : w2.cell? ⟨w.heap.size, 1, none⟩ = some (.slice o2 es.length c2) := by rw [cell_of h8.at]; rfl
  have H8 : Hid (St 1 F w2) := Lib.hid h8.drop2
  clear h7 h8
  go_wp2_with fail
  refine (made F _ _ fs es H1.out H2.out hs.1 hs.2 _ H8.out).mono ?_
  rintro e w3 ⟨i, A, l, v, m, hM, rfl, h9⟩
  have h10 : St (RowP 36 v (l.map refV) * ArenaP i A) F w3 := ((h9.to (SP.mul_assoc _ _ _).symm).drop).to (SP.mul_comm _ _)
  obtain ⟨ol, cl, hv⟩ := h10.rowSlice
  rw [List.length_map] at hv
  subst hv
  have HM := Lib.hid hM
  have H10 := Lib.hid h10
  have Hlen : Hid (l.length ≤ 40) := Lib.hid (by have := hM.len; have := hs.1; omega)
  clear h9 h10 hM H8 cg0 cg1
  by_cases hl0 : l.length = 0
  case pos =>
    have hlb : ((l.length : Int) == 0) = true := by simp [hl0]
    go_wp2_with fail
    go_ret
    exact ⟨rfl, H10.out.frame⟩
  have hlb : ((l.length : Int) == 0) = false := by rw [beq_eq_false_iff_ne]; omega
  go_wp2_with fail
  refine ((mkNew_tr i A 64 (by decide)).use (H10.out.to (SP.mul_comm _ _))).mono ?_
  rintro e w4 ⟨k, rfl, hx⟩
  obtain ⟨⟨hka, hN, hroom⟩, h11⟩ := St.whm.1 hx
  have HN : Hid (k.N = 2049) := Lib.hid (by rw [hN, HM.out.np])
  have Hka := Lib.hid hka
  have Hroom := Lib.hid hroom
  have h12 : St (MarkP k Mk.white * (RowP 36 (.slice ol l.length cl) (l.map refV) * ArenaP i A)) F w4 := h11.to (by unfold Mk.white; simp only [SP.mul_assoc, SP.mul_left_comm, SP.mul_comm])
  have H12 := Lib.hid h12
  clear hx hN hka hroom h11 h12 H10
  have hr1 : Int.tmod (rm : Int) 12 = ((rm % 12 : Nat) : Int) := by rw [Int.tmod_eq_emod_of_nonneg (by omega)]; omega
  have hr8 : rm % 12 < 12 := Nat.mod_lt _ (by decide)
  generalize rm % 12 = room at *
  have hr2 : IntKind.u8.wrap (room : Int) = room := by rw [IntKind.wrap_u8]; omega
  have hr3 : IntKind.i64.wrap (room : Int) = room := by rw [IntKind.wrap_i64]; omega
  have Htk := Lib.hid HM.out.tks
  have HN2 : Hid (k.N = 32 * A.np + 1) := Lib.hid (by rw [HN.out, HM.out.np])
  have hmk := fun W : World => run_makeMap (P := Try.prog) 35 W
  go_wp2_with fail
  refine ((vyNew_tr k Mk.white i A Hka.out (by rw [HM.out.np]; decide) (room : Int) (by omega) (by omega)).use (H12.out.to (Q := (MarkP k Mk.white * ArenaP i A) * RowP 36 (.slice ol l.length cl) (l.map refV)) (by simp only [SP.mul_assoc, SP.mul_left_comm, SP.mul_comm]))).mono ?_
  rintro e w5 ⟨v, rfl, h13⟩
  obtain ⟨⟨hvm, hvN, hvr⟩, h14⟩ := St.whm.1 h13
  have HvN := Lib.hid hvN
  have Hvr : Hid (v.room = room) := Lib.hid (by rw [hvr, Int.toNat_natCast])
  have h15 := ((h14.to (Q := VyP v Vy.none * (MarkP k Mk.white * RowP 36 (.slice ol l.length cl) (l.map refV)) * ArenaP i A) (by simp only [SP.mul_assoc, SP.mul_left_comm, SP.mul_comm])).drop).mapNew
  have Hlt : Hid (∀ r, r = 0 ∨ r ∈ l → r < v.N) := Lib.hid (by
    intro r hr
    rw [HvN.out]
    rcases hr with rfl | hr
    · omega
    · exact (Htk.out.1 r hr).1)
  have H15 := Lib.hid (h15.to (SP.mul_left_comm _ _ _))
  clear h13 h14 H12 hvm hvN hvr h15
  go_wp2_with fail
  generalize w5.alloc (.map #[] 0) = w6 at *
  generalize w5.heap.size = mb at *
  go_loopg [13, 51] ws.length (fun g s13 s wr => ∃ (n : Nat) (V : Vy) (lg : Nat) (j : Nat) (f : Int → Option Value), n ≤ ws.length ∧ g = ws.length - n ∧ s = .int .i64 n ∧ s13 = .int .i64 lg ∧ (CtF f V ∧ V.over = decide ((room : Int) < lg) ∧ V.log.length = min lg room ∧ lg ≤ n) ∧ St (VyP v V * (MapP mb j f * (MarkP k Mk.white * RowP 36 (.slice ol l.length cl) (l.map refV)))) F wr)
  case atStart => exact ⟨0, Vy.none, 0, 0, fun _ => none, Nat.zero_le _, rfl, rfl, rfl, ⟨fun _ => rfl, by simp [Vy.none], by simp [Vy.none], Nat.le_refl _⟩, H15.out⟩
  case round =>
    clear H15
    obtain ⟨n, V, lg, j, f, hn, hg, rfl, rfl, hok, hst⟩ := hrel
    have Hst := Lib.hid hst
    have Hok := Lib.hid hok
    have Hg := Lib.hid hg
    clear hst hg hok
    by_cases hlt : n < ws.length
    · have hlt' : (n : Int) < ws.length := by omega
      have hw3 : IntKind.i64.wrap ((n : Int) + 1) = ((n + 1 : Nat) : Int) := by rw [IntKind.wrap_i64]; omega
      have hn0 : 0 ≤ (n : Int) := by omega
      obtain ⟨x, a, hx, ho, hx4, cx1, cx2, cx3, cx4⟩ := InQuads.next H_ws.out Hst.out hlt
      have Hx4 := Lib.hid hx4
      subst ho
      clear hx hx4
      have h31 : St (RowP 36 (.slice ol l.length cl) (l.map refV) * (VyP v V * (MapP mb j f * MarkP k Mk.white))) F (wr.alloc (.cells #[.int .u8 x.1, .int .u8 x.2.1, .int .u8 x.2.2.1, .int .u8 x.2.2.2] 50)) :=
        ((Hst.out.alloc (.cells #[.int .u8 x.1, .int .u8 x.2.1, .int .u8 x.2.2.1, .int .u8 x.2.2.2] 50)).drop2).to (SP.l4 _ _ _ _)
      have Hw := Lib.hid (write_use hl0 Hlen.out x Hx4.out h31)
      clear h31
      go_wp2_with fail
      refine Hw.out.mono ?_
      rintro e w6 ⟨rx, ry, rz, bk, rfl, hm, h32⟩
      have Hm := Lib.hid hm
      have h33 := h32.alloc (.cells #[.int .i64 rx, .int .i64 ry, .int .i64 rz, .bool bk, .bool false] 45)
      have H33 := Lib.hid (h33.to (Q := VyP v V * (pts w6.heap.size (.cells #[.int .i64 rx, .int .i64 ry, .int .i64 rz, .bool bk, .bool false] 45 (0, 0)) * (MapP mb j f * (MarkP k Mk.white * RowP 36 (.slice ol l.length cl) (l.map refV))))) (by simp only [SP.mul_assoc, SP.mul_left_comm, SP.mul_comm]))
      clear hm h32 h33 Hw cx1 cx2 cx3 cx4 Hst
      go_wp2_with fail
      refine (vyPre_any _ _ _ _).mono ?_
      rintro e w7' ⟨rfl, rfl⟩
      go_wp2_with fail
      generalize w6.alloc (.cells #[.int .i64 rx, .int .i64 ry, .int .i64 rz, .bool bk, .bool false] 45) = w7 at *
      generalize w6.heap.size = nb at *
      refine ((vyPost_tr v V rx ry rz bk false (Hlt.out _ Hm.out.2.1) (Hlt.out _ Hm.out.2.2)).use H33.out).mono ?_
      rintro e w8 ⟨rfl, h34⟩
      have hp := (h34.to (SP.mul_left_comm _ _ _)).at
      have c1 : w8.cell? ⟨nb, 1, none⟩ = some (.int .i64 ry) := by rw [cell_of hp]; rfl
      have c2 : w8.cell? ⟨nb, 2, none⟩ = some (.int .i64 rz) := by rw [cell_of hp]; rfl
      have c3 : w8.cell? ⟨nb, 3, none⟩ = some (.bool bk) := by rw [cell_of hp]; rfl
      have HV3 : Hid (∀ r, V.cnt r ≤ 3) := Lib.hid (fun r => by obtain ⟨_, h1, _⟩ := St.vy.1 H33.out; exact h1.2 r)
      clear H33 hp
      cases bk
      · have h35 : St (MapP mb j f * (VyP v V * (MarkP k Mk.white * RowP 36 (.slice ol l.length cl) (l.map refV)))) F w8 := (h34.to (Q := MapP mb j f * (VyP v V * (MarkP k Mk.white * RowP 36 (.slice ol l.length cl) (l.map refV))) * pts nb (.cells #[.int .i64 rx, .int .i64 ry, .int .i64 rz, .bool false, .bool false] 45 (0, 0))) (by rw [show V.post v.room ry rz false = V from rfl]; simp only [SP.mul_assoc, SP.mul_left_comm, SP.mul_comm])).drop
        have hly := h35.ctGet Hok.out.1 ry
        have Hin := Lib.hid (h35.to (SP.mul_left_comm _ _ _))
        have Hct := Lib.hid Hok.out.1
        have Hov := Lib.hid Hok.out.2.1
        have Hln := Lib.hid Hok.out.2.2.1
        have Hlg := Lib.hid Hok.out.2.2.2
        clear h34 h35 Hok
        go_wp2_with fail
        go_loopg [111] l.length (fun q s wr => ∃ (p : Nat), p ≤ l.length ∧ q = l.length - p ∧ s = .int .i64 p ∧ St (VyP v V * (MapP mb j f * (MarkP k Mk.white * RowP 36 (.slice ol l.length cl) (l.map refV)))) F wr)
        case atStart => exact ⟨0, Nat.zero_le _, rfl, rfl, Hin.out⟩
        case round =>
          clear Hin
          obtain ⟨p, hp, hg2, rfl, hst⟩ := hrel
          have Hg2 := Lib.hid hg2
          clear hg2
          by_cases hlp : p < l.length
          · have hlp' : (p : Int) < l.length := by omega
            have hw4 : IntKind.i64.wrap ((p : Int) + 1) = ((p + 1 : Nat) : Int) := by have := Hlen.out; rw [IntKind.wrap_i64]; omega
            have hp0 : 0 ≤ (p : Int) := by omega
            obtain ⟨rp, hrp⟩ : ∃ r, l[p]? = some r := ⟨l[p], by simp [hlp]⟩
            have hri := Hlt.out rp (.inr (List.mem_iff_getElem?.2 ⟨_, hrp⟩))
            have Hri := Lib.hid hri
            obtain ⟨g, eg, crx⟩ := (hst.to (SP.l4 _ _ _ _)).refAt hrp
            have Heg := Lib.hid eg
            have hS := hst.drew
            clear hst hrp hri eg
            rw [Heg.out] at hS
            have eg := Heg.out
            clear Heg
            subst eg
            have Hc := (vyCount_tr v V rp Hri.out).kp (MapP mb j f * (MarkP k Mk.white * RowP 36 (.slice (some ⟨g, 0, none⟩) l.length cl) (l.map refV))) F
            have Hlk : ∀ W', St (VyP v V * (MapP mb j f * (MarkP k Mk.white * RowP 36 (.slice (some ⟨g, 0, none⟩) l.length cl) (l.map refV)))) F W' → _ := fun W' hW => (hW.to (SP.mul_left_comm _ _ _)).ctGet Hct.out rp
            have Hlk2 := Lib.hid Hlk
            clear Hlk
            go_wp2_with fail
            refine wp_region_held (S := fun W' => St (VyP v V * (MapP mb j f * (MarkP k Mk.white * RowP 36 (.slice (some ⟨g, 0, none⟩) l.length cl) (l.map refV)))) F W') (by kernel_rfl) ?_
            refine wpAnyH_take (i := 0) (v := _) rfl (by kernel_rfl) (by kernel_rfl) (by kernel_rfl) (fun _ _ _ h => h) (.inl ⟨rfl, fun W' hW => by have hl := Hlk2.out W' hW; go_simp; rfl⟩) hS ?_
            refine wpAnyH_take (i := 1) (v := _) rfl (by kernel_rfl) (by kernel_rfl) (by kernel_rfl) (fun _ _ _ h => h) (.inl ⟨rfl, fun W' hW => by have hl := Hlk2.out W' hW; go_simp; rfl⟩) hS ?_
            refine wpAnyH_take (i := 3) (v := _) rfl (by kernel_rfl) (by kernel_rfl) (by kernel_rfl) (fun _ _ _ h => h) (.inl ⟨rfl, fun W' hW => by have hl := Hlk2.out W' hW; go_simp; rfl⟩) hS ?_
            refine wpAnyH_take (i := 4) (v := _) rfl (by kernel_rfl) (by kernel_rfl) (by kernel_rfl) (fun _ _ _ h => h) (.inl ⟨rfl, fun W' hW => by have hl := Hlk2.out W' hW; go_simp; rfl⟩) hS ?_
            refine wpAnyH_take (i := 5) (v := _) rfl (by kernel_rfl) (by kernel_rfl) (by kernel_rfl) (fun _ _ _ h => h) (.inl ⟨rfl, fun W' hW => by have hl := Hlk2.out W' hW; go_simp; rfl⟩) hS ?_
            refine wpAnyH_all (rs := [2]) (by kernel_rfl) (by simp) (fun q hq => ?_)
            obtain rfl : q = 2 := by simpa using hq
            clear hq
            refine wpOp_step rfl (fun K' hK' => ?_)
            go_simp
            refine (Hc _ hS).mono ?_
            clear hS
            rintro e wS ⟨rfl, hS⟩
            refine hK' _ _ ⟨hS, ?_⟩
            clear hK' K'
            refine wpAnyH_take (i := 6) (v := _) rfl (by kernel_rfl) (by kernel_rfl) (by kernel_rfl) (fun _ _ _ h => h) (.inl ⟨rfl, fun W' hW => by have hl := Hlk2.out W' hW; go_simp; rfl⟩) hS ?_
            refine wpAnyH_done (by kernel_rfl) ?_ _
            go_wp2_with fail
            go_roundg (l.length - (p + 1))
            case measure => have := Hg2.out; omega
            case rel => exact ⟨p + 1, by omega, rfl, by go_num, hS⟩
          · obtain rfl : p = l.length := by omega
            have Ho := Lib.hid ((vyOver_tr v V).use hst)
            rw [Hov.out] at Ho
            clear hst
            go_wp2_with fail
            refine Ho.out.mono ?_
            rintro e w20 ⟨rfl, h60⟩
            have Hk := Lib.hid ((mkCount_tr k Mk.white).use (h60.to (SP.x3 _ _ _ _)))
            rw [popw_white'] at Hk
            clear h60 Ho
            go_wp2_with fail
            refine Hk.out.mono ?_
            rintro e w21 ⟨rfl, h61⟩
            have H62 := Lib.hid (h61.to (SP.x3 _ _ _ _).symm)
            clear h61 Hk
            go_wp2_with fail
            go_roundg (ws.length - (n + 1))
            case measure => have := Hg.out; omega
            case rel => exact ⟨n + 1, V, lg, j, f, by omega, rfl, by go_num, rfl, ⟨Hct.out, Hov.out, Hln.out, by have := Hlg.out; omega⟩, H62.out⟩
      · have Hok2 := Lib.hid Hok.out
        have H34 : Hid (St (MapP mb j f * (pts nb (.cells #[.int .i64 rx, .int .i64 ry, .int .i64 rz, .bool true, .bool false] 45 (0, 0)) * (VyP v ((V.half v.room rz).dn ry) * (MarkP k Mk.white * RowP 36 (.slice ol l.length cl) (l.map refV))))) F w8) := Lib.hid (h34.to (by rw [← Vy.post_half]; simp only [SP.mul_assoc, SP.mul_left_comm, SP.mul_comm]))
        have hlw : IntKind.i64.wrap ((lg : Int) + 1) = ((lg + 1 : Nat) : Int) := by have := Hok2.out.2.2.2; rw [IntKind.wrap_i64]; omega
        clear h34 Hok
        go_upto_if 73 with fail
        go_cut [13] (fun s13 wx => ∃ (lg1 j1 : Nat) (f1 : Int → Option Value), s13 = .int .i64 lg1 ∧ (CtF f1 (V.half v.room rz) ∧ (V.half v.room rz).over = decide (room < lg1) ∧ (V.half v.room rz).log.length = min lg1 room ∧ lg1 ≤ n + 1 ∧ ∀ r, (V.half v.room rz).cnt r ≤ 3) ∧ St (MapP mb j1 f1 * (pts nb (.cells #[.int .i64 rx, .int .i64 ry, .int .i64 rz, .bool true, .bool false] 45 (0, 0)) * (VyP v ((V.half v.room rz).dn ry) * (MarkP k Mk.white * RowP 36 (.slice ol l.length cl) (l.map refV))))) F wx)
        case first =>
          by_cases hz0 : rz = 0
          · have hzb : ((rz : Int) != 0) = false := by simp [hz0]
            have Hh : Hid (V.half v.room rz = V) := Lib.hid (by unfold Vy.half; rw [if_pos hz0])
            clear hz0
            go_wp2_with fail
            go_meet
            case rel =>
              have h := H34.out
              rw [Hh.out] at h ⊢
              exact ⟨lg, j, f, rfl, ⟨Hok2.out.1, by rw [Hok2.out.2.1]; simp, Hok2.out.2.2.1, by have := Hok2.out.2.2.2; omega, HV3.out⟩, h⟩
          · have hzb : ((rz : Int) != 0) = true := by simp; omega
            have Hho : Hid ((V.half v.room rz).over = decide (room < lg + 1) ∧ (V.half v.room rz).log.length = min (lg + 1) room) := Lib.hid (by rw [Hvr.out]; exact half_over (by rw [Hok2.out.2.1]; simp) Hok2.out.2.2.1 rz hz0)
            have Hhc := Lib.hid (half_cnt v.room V rz hz0)
            have Hvr2 := Lib.hid Hvr.out
            have hlz := H34.out.ctGet Hok2.out.1 rz
            have h3 := HV3.out rz
            have Hh3 : Hid (∀ r, (V.half v.room rz).cnt r ≤ 3) := Lib.hid (fun r => by rw [Hhc.out]; split; omega; exact HV3.out r)
            clear hz0
            rcases (by omega : V.cnt rz = 0 ∨ V.cnt rz = 1 ∨ V.cnt rz = 2 ∨ V.cnt rz = 3) with hc | hc | hc | hc
            · have hn3 : ¬ (3 : Int) < 1 := by decide
              obtain ⟨w9, j2, f2, hput, hct, h36⟩ := H34.out.ctPut (V' := V.half v.room rz) Hok2.out.1 rz (min (V.cnt rz + 1) 3) 1 (by rw [hc]; rfl) Hhc.out
              have H36 := Lib.hid h36
              have Hct := Lib.hid hct
              rw [hc] at hlz
              clear h36 hct hc h3
              go_wp2_with fail
              go_meet
              case rel => exact ⟨lg + 1, j2, f2, by go_num, ⟨Hct.out, Hho.out.1, Hho.out.2, by have := Hok2.out.2.2.2; omega, Hh3.out⟩, H36.out⟩
            · have hn3 : ¬ (3 : Int) < 2 := by decide
              obtain ⟨w9, j2, f2, hput, hct, h36⟩ := H34.out.ctPut (V' := V.half v.room rz) Hok2.out.1 rz (min (V.cnt rz + 1) 3) 2 (by rw [hc]; rfl) Hhc.out
              have H36 := Lib.hid h36
              have Hct := Lib.hid hct
              rw [hc] at hlz
              clear h36 hct hc h3
              go_wp2_with fail
              go_meet
              case rel => exact ⟨lg + 1, j2, f2, by go_num, ⟨Hct.out, Hho.out.1, Hho.out.2, by have := Hok2.out.2.2.2; omega, Hh3.out⟩, H36.out⟩
            · have hn3 : ¬ (3 : Int) < 3 := by decide
              obtain ⟨w9, j2, f2, hput, hct, h36⟩ := H34.out.ctPut (V' := V.half v.room rz) Hok2.out.1 rz (min (V.cnt rz + 1) 3) 3 (by rw [hc]; rfl) Hhc.out
              have H36 := Lib.hid h36
              have Hct := Lib.hid hct
              rw [hc] at hlz
              clear h36 hct hc h3
              go_wp2_with fail
              go_meet
              case rel => exact ⟨lg + 1, j2, f2, by go_num, ⟨Hct.out, Hho.out.1, Hho.out.2, by have := Hok2.out.2.2.2; omega, Hh3.out⟩, H36.out⟩
            · have hn3 : ¬ (3 : Int) < 3 := by decide
              obtain ⟨w9, j2, f2, hput, hct, h36⟩ := H34.out.ctPut (V' := V.half v.room rz) Hok2.out.1 rz (min (V.cnt rz + 1) 3) 3 (by rw [hc]; rfl) Hhc.out
              have H36 := Lib.hid h36
              have Hct := Lib.hid hct
              rw [hc] at hlz
              clear h36 hct hc h3
              go_wp2_with fail
              go_meet
              case rel => exact ⟨lg + 1, j2, f2, by go_num, ⟨Hct.out, Hho.out.1, Hho.out.2, by have := Hok2.out.2.2.2; omega, Hh3.out⟩, H36.out⟩
        case rest =>
          obtain ⟨lg1, j1, f1, rfl, ⟨g1, g2, g3, g4, g5⟩, hst⟩ := hcut
          generalize V.half v.room rz = V1 at *
          have Hct := Lib.hid g1
          have Hov' := Lib.hid g2
          have Hln' := Lib.hid g3
          have Hlg := Lib.hid g4
          have H35 := Lib.hid hst
          have hp := (hst.to (SP.mul_left_comm _ _ _)).at
          have c1 : wc.cell? ⟨nb, 1, none⟩ = some (.int .i64 ry) := by rw [cell_of hp]; rfl
          have c3 : wc.cell? ⟨nb, 3, none⟩ = some (.bool true) := by rw [cell_of hp]; rfl
          have hly := hst.ctGet g1 ry
          have h3 := g5 ry
          clear hst hp g1 g2 g3 g4 g5 H34 Hok2 HV3 hlw c2
          go_upto_region 22 with fail
          go_cut [103] (fun s wx => s = .bool (dnB V1 ry) ∧ St (MapP mb j1 f1 * (pts nb (.cells #[.int .i64 rx, .int .i64 ry, .int .i64 rz, .bool true, .bool false] 45 (0, 0)) * (VyP v (V1.dn ry) * (MarkP k Mk.white * RowP 36 (.slice ol l.length cl) (l.map refV))))) F wx)
          case first =>
            by_cases hy0 : ry = 0
            · have hyb : ((ry : Int) != 0) = false := by simp [hy0]
              have Hd : Hid (dnB V1 ry = false) := Lib.hid (by unfold dnB; simp [hy0])
              clear hy0
              go_wp2_with fail
              go_meet
              case rel => rw [Hd.out]; exact ⟨rfl, H35.out⟩
            · have hyb : ((ry : Int) != 0) = true := by simp; omega
              rcases (by omega : V1.cnt ry = 0 ∨ V1.cnt ry = 1 ∨ V1.cnt ry = 2 ∨ V1.cnt ry = 3) with hc | hc | hc | hc
              · have Hd : Hid (dnB V1 ry = false) := Lib.hid (by unfold dnB; simp [hc])
                have e1 : (((V1.cnt ry : Nat) : Int) == 1) = false := by rw [hc]; rfl
                have e2 : (((V1.cnt ry : Nat) : Int) == 2) = false := by rw [hc]; rfl
                clear hy0 hc h3
                go_wp2_with fail
                go_meet
                case rel => rw [Hd.out]; exact ⟨rfl, H35.out⟩
              · have Hd : Hid (dnB V1 ry = true) := Lib.hid (by unfold dnB; simp [hc, hy0])
                have e1 : (((V1.cnt ry : Nat) : Int) == 1) = true := by rw [hc]; rfl
                have e2 : (((V1.cnt ry : Nat) : Int) == 2) = false := by rw [hc]; rfl
                clear hy0 hc h3
                go_wp2_with fail
                go_meet
                case rel => rw [Hd.out]; exact ⟨rfl, H35.out⟩
              · have Hd : Hid (dnB V1 ry = true) := Lib.hid (by unfold dnB; simp [hc, hy0])
                have e1 : (((V1.cnt ry : Nat) : Int) == 1) = false := by rw [hc]; rfl
                have e2 : (((V1.cnt ry : Nat) : Int) == 2) = true := by rw [hc]; rfl
                clear hy0 hc h3
                go_wp2_with fail
                go_meet
                case rel => rw [Hd.out]; exact ⟨rfl, H35.out⟩
              · have Hd : Hid (dnB V1 ry = false) := Lib.hid (by unfold dnB; simp [hc])
                have e1 : (((V1.cnt ry : Nat) : Int) == 1) = false := by rw [hc]; rfl
                have e2 : (((V1.cnt ry : Nat) : Int) == 2) = false := by rw [hc]; rfl
                clear hy0 hc h3
                go_wp2_with fail
                go_meet
                case rel => rw [Hd.out]; exact ⟨rfl, H35.out⟩
          case rest =>
            obtain ⟨rfl, hst⟩ := hcut
            generalize hb : dnB V1 ry = b at *
            have Hb := Lib.hid hb
            clear hb
            have hp := (hst.to (SP.mul_left_comm _ _ _)).at
            have c1' : wc.cell? ⟨nb, 1, none⟩ = some (.int .i64 ry) := by rw [cell_of hp]; rfl
            have H36 := Lib.hid hst
            clear hst H35
            go_upto_if 103 with fail
            go_cut [] (fun wx => ∃ (j2 : Nat) (f2 : Int → Option Value), CtF f2 (V1.dn ry) ∧ St (MapP mb j2 f2 * (VyP v (V1.dn ry) * (MarkP k Mk.white * RowP 36 (.slice ol l.length cl) (l.map refV)))) F wx)
            case first =>
              rcases Bool.eq_false_or_eq_true b with hb | hb
              · subst hb
                have hd : ry ≠ 0 ∧ 0 < V1.cnt ry ∧ V1.cnt ry < 3 := by have := Hb.out; unfold dnB at this; exact of_decide_eq_true this
                have hly2 := H36.out.ctGet Hct.out ry
                obtain ⟨w9, j2, f2, hput, hct, h37⟩ := H36.out.ctPut (V' := V1.dn ry) Hct.out ry (V1.cnt ry - 1) ((V1.cnt ry : Int) - 1) (by omega) (dn_cnt V1 ry hd.1 hd.2.1 hd.2.2)
                have hws : wrap64 ((V1.cnt ry : Int) - 1) = (V1.cnt ry : Int) - 1 := IntWalk.wrap64_in _ (by omega)
                have hws2 : IntKind.i64.wrap ((V1.cnt ry : Int) - 1) = (V1.cnt ry : Int) - 1 := by rw [IntKind.wrap_i64]; omega
                have H37 := Lib.hid (h37.to (SP.mul_left_comm _ _ _)).drop2
                have Hct2 := Lib.hid hct
                clear h37 hct hd hp
                go_wp2_with fail
                go_meet
                case rel => exact ⟨j2, f2, Hct2.out, H37.out⟩
              · subst hb
                have hd : ¬ (ry ≠ 0 ∧ 0 < V1.cnt ry ∧ V1.cnt ry < 3) := by have := Hb.out; unfold dnB at this; exact of_decide_eq_false this
                have H37 := Lib.hid (H36.out.to (SP.mul_left_comm _ _ _)).drop2
                have Hct2 : Hid (CtF f1 (V1.dn ry)) := Lib.hid (by have e : V1.dn ry = V1 := by unfold Vy.dn; rw [if_neg hd]
                                                                   rw [e]; exact Hct.out)
                clear hd hp
                go_wp2_with fail
                go_meet
                case rel => exact ⟨j1, f1, Hct2.out, H37.out⟩
            case rest =>
              obtain ⟨j2, f2, hct, hst⟩ := hcut
              have hdo := dn_over V1 ry
              have Hov : Hid ((V1.dn ry).over = decide ((room : Int) < lg1)) := Lib.hid (by rw [hdo.1, Hov'.out]; simp)
              have Hln : Hid ((V1.dn ry).log.length = min lg1 room) := Lib.hid (by rw [hdo.2]; exact Hln'.out)
              have Hct2 := Lib.hid hct
              have Hin := Lib.hid (hst.to (SP.mul_left_comm _ _ _))
              clear hct hst hdo Hct Hov' Hln' H36 hp c1'
              generalize V1.dn ry = V2 at *
              go_wp2_with fail
              go_loopg [111] l.length (fun q s wr => ∃ (p : Nat), p ≤ l.length ∧ q = l.length - p ∧ s = .int .i64 p ∧ St (VyP v V2 * (MapP mb j2 f2 * (MarkP k Mk.white * RowP 36 (.slice ol l.length cl) (l.map refV)))) F wr)
              case atStart => exact ⟨0, Nat.zero_le _, rfl, rfl, Hin.out⟩
              case round =>
                clear Hin
                obtain ⟨p, hp, hg2, rfl, hst⟩ := hrel
                have Hg2 := Lib.hid hg2
                clear hg2
                by_cases hlp : p < l.length
                · have hlp' : (p : Int) < l.length := by omega
                  have hw4 : IntKind.i64.wrap ((p : Int) + 1) = ((p + 1 : Nat) : Int) := by have := Hlen.out; rw [IntKind.wrap_i64]; omega
                  have hp0 : 0 ≤ (p : Int) := by omega
                  obtain ⟨rp, hrp⟩ : ∃ r, l[p]? = some r := ⟨l[p], by simp [hlp]⟩
                  have hri := Hlt.out rp (.inr (List.mem_iff_getElem?.2 ⟨_, hrp⟩))
                  have Hri := Lib.hid hri
                  obtain ⟨g, eg, crx⟩ := (hst.to (SP.l4 _ _ _ _)).refAt hrp
                  have Heg := Lib.hid eg
                  have hS := hst.drew
                  clear hst hrp hri eg
                  rw [Heg.out] at hS
                  have eg := Heg.out
                  clear Heg
                  subst eg
                  have Hc := (vyCount_tr v V2 rp Hri.out).kp (MapP mb j2 f2 * (MarkP k Mk.white * RowP 36 (.slice (some ⟨g, 0, none⟩) l.length cl) (l.map refV))) F
                  have Hlk : ∀ W', St (VyP v V2 * (MapP mb j2 f2 * (MarkP k Mk.white * RowP 36 (.slice (some ⟨g, 0, none⟩) l.length cl) (l.map refV)))) F W' → _ := fun W' hW => (hW.to (SP.mul_left_comm _ _ _)).ctGet Hct2.out rp
                  have Hlk2 := Lib.hid Hlk
                  clear Hlk
                  go_wp2_with fail
                  refine wp_region_held (S := fun W' => St (VyP v V2 * (MapP mb j2 f2 * (MarkP k Mk.white * RowP 36 (.slice (some ⟨g, 0, none⟩) l.length cl) (l.map refV)))) F W') (by kernel_rfl) ?_
                  refine wpAnyH_take (i := 0) (v := _) rfl (by kernel_rfl) (by kernel_rfl) (by kernel_rfl) (fun _ _ _ h => h) (.inl ⟨rfl, fun W' hW => by have hl := Hlk2.out W' hW; go_simp; rfl⟩) hS ?_
                  refine wpAnyH_take (i := 1) (v := _) rfl (by kernel_rfl) (by kernel_rfl) (by kernel_rfl) (fun _ _ _ h => h) (.inl ⟨rfl, fun W' hW => by have hl := Hlk2.out W' hW; go_simp; rfl⟩) hS ?_
                  refine wpAnyH_take (i := 3) (v := _) rfl (by kernel_rfl) (by kernel_rfl) (by kernel_rfl) (fun _ _ _ h => h) (.inl ⟨rfl, fun W' hW => by have hl := Hlk2.out W' hW; go_simp; rfl⟩) hS ?_
                  refine wpAnyH_take (i := 4) (v := _) rfl (by kernel_rfl) (by kernel_rfl) (by kernel_rfl) (fun _ _ _ h => h) (.inl ⟨rfl, fun W' hW => by have hl := Hlk2.out W' hW; go_simp; rfl⟩) hS ?_
                  refine wpAnyH_take (i := 5) (v := _) rfl (by kernel_rfl) (by kernel_rfl) (by kernel_rfl) (fun _ _ _ h => h) (.inl ⟨rfl, fun W' hW => by have hl := Hlk2.out W' hW; go_simp; rfl⟩) hS ?_
                  refine wpAnyH_all (rs := [2]) (by kernel_rfl) (by simp) (fun q hq => ?_)
                  obtain rfl : q = 2 := by simpa using hq
                  clear hq
                  refine wpOp_step rfl (fun K' hK' => ?_)
                  go_simp
                  refine (Hc _ hS).mono ?_
                  clear hS
                  rintro e wS ⟨rfl, hS⟩
                  refine hK' _ _ ⟨hS, ?_⟩
                  clear hK' K'
                  refine wpAnyH_take (i := 6) (v := _) rfl (by kernel_rfl) (by kernel_rfl) (by kernel_rfl) (fun _ _ _ h => h) (.inl ⟨rfl, fun W' hW => by have hl := Hlk2.out W' hW; go_simp; rfl⟩) hS ?_
                  refine wpAnyH_done (by kernel_rfl) ?_ _
                  go_wp2_with fail
                  go_roundg (l.length - (p + 1))
                  case measure => have := Hg2.out; omega
                  case rel => exact ⟨p + 1, by omega, rfl, by go_num, hS⟩
                · obtain rfl : p = l.length := by omega
                  have Ho := Lib.hid ((vyOver_tr v V2).use hst)
                  rw [Hov.out] at Ho
                  clear hst
                  go_wp2_with fail
                  refine Ho.out.mono ?_
                  rintro e w20 ⟨rfl, h60⟩
                  have Hk := Lib.hid ((mkCount_tr k Mk.white).use (h60.to (SP.x3 _ _ _ _)))
                  rw [popw_white'] at Hk
                  clear h60 Ho
                  go_wp2_with fail
                  refine Hk.out.mono ?_
                  rintro e w21 ⟨rfl, h61⟩
                  have H62 := Lib.hid (h61.to (SP.x3 _ _ _ _).symm)
                  clear h61 Hk
                  go_wp2_with fail
                  go_roundg (ws.length - (n + 1))
                  case measure => have := Hg.out; omega
                  case rel => exact ⟨n + 1, V2, lg1, j2, f2, by omega, rfl, by go_num, rfl, ⟨Hct2.out, Hov.out, Hln.out, by have := Hlg.out; omega⟩, H62.out⟩
    · obtain rfl : n = ws.length := by omega
      have hvN : 0 < v.N := Hlt.out 0 (.inl rfl)
      have Hz := Lib.hid ((vyReset_tr v V (Hlt.out 0 (.inl rfl))).use Hst.out)
      clear Hst Hok Hg
      go_wp2_with fail
      refine Hz.out.mono ?_
      rintro e w30 ⟨rfl, h70⟩
      clear Hz
      have h71 : St (VyP v Vy.none * RowP 36 (.slice ol l.length cl) (l.map refV)) F w30 := (h70.to (Q := VyP v Vy.none * RowP 36 (.slice ol l.length cl) (l.map refV) * (MapP mb j f * MarkP k Mk.white)) (by simp only [SP.mul_assoc, SP.mul_left_comm, SP.mul_comm])).drop
      clear h70
      go_wp2_with fail
      go_loopg [141] l.length (fun q s wr => ∃ (p : Nat), p ≤ l.length ∧ q = l.length - p ∧ s = .int .i64 p ∧ St (VyP v Vy.none * RowP 36 (.slice ol l.length cl) (l.map refV)) F wr)
      case atStart => exact ⟨0, Nat.zero_le _, rfl, rfl, h71⟩
      case round =>
        clear h71
        obtain ⟨p, hp, hg2, rfl, hst⟩ := hrel
        have Hg2 := Lib.hid hg2
        clear hg2
        by_cases hlp : p < l.length
        · have hlp' : (p : Int) < l.length := by omega
          have hw4 : IntKind.i64.wrap ((p : Int) + 1) = ((p + 1 : Nat) : Int) := by have := Hlen.out; rw [IntKind.wrap_i64]; omega
          have hp0 : 0 ≤ (p : Int) := by omega
          obtain ⟨rp, hrp⟩ : ∃ r, l[p]? = some r := ⟨l[p], by simp [hlp]⟩
          have Hri := Lib.hid (Hlt.out rp (.inr (List.mem_iff_getElem?.2 ⟨_, hrp⟩)))
          obtain ⟨g, eg, crx⟩ := (hst.to (SP.mul_comm _ _)).refAt hrp
          subst eg
          have Hc := Lib.hid ((vyCount_tr v Vy.none rp Hri.out).use hst)
          rw [show Vy.none.cnt rp = 0 from rfl] at Hc
          clear hst hrp
          go_wp2_with fail
          refine Hc.out.mono ?_
          rintro e w31 ⟨rfl, h72⟩
          have H72 := Lib.hid h72
          clear h72 Hc crx
          go_wp2_with fail
          go_roundg (l.length - (p + 1))
          case measure => have := Hg2.out; omega
          case rel => exact ⟨p + 1, by omega, rfl, by go_num, H72.out⟩
        · obtain rfl : p = l.length := by omega
          have Hc := Lib.hid ((vyOver_tr v Vy.none).use hst)
          rw [show Vy.none.over = false from rfl] at Hc
          have Hn0 := Lib.hid (Hlt.out 0 (.inl rfl))
          have Hn1 : Hid ((v.N : Int) ≤ 1099511627776) := Lib.hid (by rw [HvN.out, HM.out.np]; decide)
          clear hst
          go_wp2_with fail
          refine Hc.out.mono ?_
          rintro e w32 ⟨rfl, h73⟩
          have Hd := Lib.hid ((vyCount_tr v Vy.none 0 Hn0.out).use h73)
          rw [show Vy.none.cnt 0 = 0 from rfl] at Hd
          clear h73 Hc
          go_wp2_with fail
          refine Hd.out.mono ?_
          rintro e w33 ⟨rfl, h74⟩
          have Hc := Lib.hid ((vyCount_out v Vy.none (-1) (.inl (by decide))).use h74)
          clear h74 Hd
          go_wp2_with fail
          refine Hc.out.mono ?_
          rintro e w34 ⟨rfl, h75⟩
          have Hd := Lib.hid ((vyCount_out v Vy.none 1099511627776 (.inr Hn1.out)).use h75)
          clear h75 Hc
          go_wp2_with fail
          refine Hd.out.mono ?_
          rintro e w35 ⟨rfl, h76⟩
          clear Hd
          go_wp2_with fail
          go_ret
          exact ⟨rfl, h76.frame⟩
end Go.Proofs.Ytknmlfolbapmpaa
