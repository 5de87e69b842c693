import Derived.Test.YtknmlfolbapmpaaPick
namespace Go.Proofs.Ytknmlfolbapmpaa
open Go Go.RowKit

theorem djRemark_any (b : Value) (w : World) : Calls Try.prog 26 #[b] w fun e w' => e = .returned (.tuple #[]) ∧ w' = w := by
  go_enter Try.func26, Try.ntmps26
  go_wp2
  go_end0
  exact ⟨rfl, rfl⟩
theorem djReset_any (b : Value) (w : World) : Calls Try.prog 27 #[b] w fun e w' => e = .returned (.tuple #[]) ∧ w' = w := by
  go_enter Try.func27, Try.ntmps27
  go_wp2
  go_end0
  exact ⟨rfl, rfl⟩
set_option maxRecDepth 100000 in
set_option maxHeartbeats 40000000 in
/-- DijkstraRuns. -/
theorem dijkstraRuns (F : Fr) (v1 v2 v3 v4 : Value) (fs : List Nat) (es : List (Nat × Nat × Nat)) (cs : List Nat) (ws : List (Nat × Nat)) (h1 : InBytes F v1 fs) (h2 : InTriples F v2 es) (h3 : InBytes F v3 cs) (h4 : InPairs F v4 ws)
    (w : World) (h : St 1 F w) : Calls Try.prog 3 #[.agg #[v1, v2], v3, v4] w fun e w' => e = .returned (.bool true) ∧ St 1 F w' := by
  obtain ⟨o1, c1, rfl, H1⟩ := id h1
  obtain ⟨o2, c2, rfl, H2⟩ := id h2
  obtain ⟨o3, c3, rfl, H3⟩ := h3
  obtain ⟨o4, c4, rfl, H4⟩ := h4
  clear H1 H2
  have H1 := Lib.hid h1
  have H2 := Lib.hid h2
  have H3' := Lib.hid H3
  have H4' := Lib.hid H4
  clear h1 h2 H3 H4
  have hb := h.mul1.alloc (.cells #[.slice o1 fs.length c1, .slice o2 es.length c2] 25)
  have Hb := Lib.hid hb
  clear h hb
  go_enter Try.func3, Try.ntmps3
  go_wp2_with fail
  refine (djFit.use (Hb.out.mul1.to (SP.mul_comm _ _))).mono ?_
  rintro e w1 ⟨rfl, h5⟩
  have h6 : St (pts w.heap.size (.cells #[.slice o1 fs.length c1, .slice o2 es.length c2] 25 (0, 0)) * 1) F w1 := h5.to (by simp only [SP.one_mul, SP.mul_one])
  have cg0 : w1.cell? ⟨w.heap.size, 0, none⟩ = some (.slice o1 fs.length c1) := by rw [cell_of h6.at]; rfl
  have cg1 : w1.cell? ⟨w.heap.size, 1, none⟩ = some (.slice o2 es.length c2) := by rw [cell_of h6.at]; rfl
  have hsm := (small_tr o1 o2 fs.length c1 es.length c2).use (h6.mul1.to (SP.mul_comm _ _))
  have Hsm := Lib.hid hsm
  clear h5 h6 hsm Hb
  have Hsm := Hsm.out
  by_cases hs : fs.length ≤ 40 ∧ es.length ≤ 120
  · have e1 : (decide (fs.length ≤ 40) && decide (es.length ≤ 120)) = true := by simp [hs.1, hs.2]
    rw [e1] at Hsm
    have Hsm := Lib.hid Hsm
    rename_i Hsm0
    clear Hsm0 e1
    by_cases hw40 : ws.length ≤ 40
    · have hw' : ¬ (40 : Int) < ws.length := by omega
      go_wp2_with fail
      refine Hsm.out.mono ?_
      rintro e w2 ⟨rfl, h7⟩
      clear Hsm
      have h8 : St (pts w.heap.size (.cells #[.slice o1 fs.length c1, .slice o2 es.length c2] 25 (0, 0)) * 1) F w2 := h7.to (by simp only [SP.one_mul, SP.mul_one])
      have cg0 : w2.cell? ⟨w.heap.size, 0, none⟩ = some (.slice o1 fs.length c1) := by rw [cell_of h8.at]; rfl
      have cg1 : w2.cell? ⟨w.heap.size, 1, none⟩ = some (.slice o2 es.length c2) := by rw [cell_of h8.at]; rfl
      have H8 : Hid (St 1 F w2) := Lib.hid h8.drop2
      clear h7 h8
      go_wp2_with fail
      refine (made F _ _ fs es H1.out H2.out hs.1 hs.2 _ H8.out).mono ?_
      rintro e w3 ⟨i, A, l, v, m, hM, rfl, h9⟩
      have h10 : St (ArenaP i A * RowP 36 v (l.map refV)) F w3 := (h9.to (Q := ArenaP i A * RowP 36 v (l.map refV) * GroupP 36 m (outG A l)) (by simp only [SP.mul_assoc])).drop
      have HM := Lib.hid hM
      have H10 := Lib.hid h10
      clear h9 h10 hM H8 cg0 cg1
      have hmk := fun W : World => run_makeMap (P := Try.prog) 35 W
      go_wp2_with fail
      refine ((mkNew_tr i A 64 (by decide)).use H10.out).mono ?_
      rintro e w4 ⟨k, rfl, hx⟩
      obtain ⟨⟨_, hN, _⟩, h11⟩ := St.whm.1 hx
      have HN : Hid (k.N = 2049) := Lib.hid (by rw [hN, HM.out.np])
      have h12 : St (RowP 36 v (l.map refV) * MarkP k ⟨fun _ => false, fun _ => false, [], false⟩) F w4 := (h11.to (Q := RowP 36 v (l.map refV) * MarkP k ⟨fun _ => false, fun _ => false, [], false⟩ * ArenaP i A) (by simp only [SP.mul_assoc, SP.mul_left_comm, SP.mul_comm])).drop
      obtain ⟨ol, cl, hv⟩ := h12.rowSlice
      rw [List.length_map] at hv
      subst hv
      have h13 := h12.mapNew
      have H13 := Lib.hid h13
      clear hx hN h11 h12 h13 H10
      go_wp2_with fail
      generalize w4.alloc (.map #[] 0) = w5 at *
      generalize w4.heap.size = mb at *
      have h14 : St (MapP mb 0 (colF fun _ => 0) * (RowP 36 (.slice ol l.length cl) (l.map refV) * MarkP k ⟨fun _ => false, fun _ => false, [], false⟩)) F w5 := by
        have e : colF (fun _ => 0) = fun _ => none := by funext x; simp [colF]
        rw [e]; exact H13.out
      clear H13
      go_loopw [42] (fun v wr => ∃ (n j : Nat) (M : Mk) (col : Int → Nat), n ≤ l.length ∧ v = .int .i64 n ∧ ColM M col ∧ (∀ r : Nat, r ∉ l.take n → col r = 0) ∧ St (MapP mb j (colF col) * (RowP 36 (.slice ol l.length cl) (l.map refV) * MarkP k M)) F wr) (fun v _ => l.length - (intOf v).toNat)
      case atStart => exact ⟨0, 0, _, fun _ => 0, Nat.zero_le _, rfl, fun _ => ⟨rfl, rfl⟩, fun _ _ => rfl, h14⟩
      case round =>
        clear h14
        obtain ⟨n, j, M, col, hn, rfl, hcol, hout, hst⟩ := hrel
        by_cases hlt : n < l.length
        · have hlt' : (n : Int) < l.length := by omega
          have hn0 : 0 ≤ (n : Int) := by omega
          have hlen : l.length ≤ 40 := by have := HM.out.len; have := hs.1; omega
          have hw3 : IntKind.i64.wrap ((n : Int) + 1) = ((n + 1 : Nat) : Int) := by rw [IntKind.wrap_i64]; omega
          obtain ⟨rx, hrx⟩ : ∃ r, l[n]? = some r := ⟨l[n], by simp [hlt]⟩
          have hmx : rx ∈ l := List.mem_iff_getElem?.2 ⟨_, hrx⟩
          have hrr := HM.out.ref hmx
          have htake : l.take (n + 1) = l.take n ++ [rx] := by rw [List.take_add_one, hrx]; rfl
          have hnew : rx ∉ l.take n := by
            intro hm
            have h2 : (l.take (n + 1)).Nodup := List.Sublist.nodup (List.take_sublist _ _) HM.out.nd
            rw [htake, List.nodup_append] at h2
            exact h2.2.2 rx hm rx (by simp) rfl
          have hc0 : col rx = 0 := hout rx hnew
          have hst2 : St (RowP 36 (.slice ol l.length cl) (l.map refV) * (MapP mb j (colF col) * MarkP k M)) F wr := hst.to (SP.mul_left_comm _ _ _)
          obtain ⟨g, eg, crx⟩ := hst2.refAt hrx
          have Hst := Lib.hid hst2
          have Hcol := Lib.hid hcol
          have Hout := Lib.hid hout
          have Htake := Lib.hid htake
          have Hc0 := Lib.hid hc0
          have Hrr := Lib.hid hrr
          clear hst hst2 hcol hout htake hnew hmx hrx hc0 hrr
          subst eg
          by_cases hcs : n < cs.length
          · have hcs' : (n : Int) < cs.length := by omega
            obtain ⟨c, hc⟩ : ∃ c, cs[n]? = some c := ⟨cs[n], by simp [hcs]⟩
            obtain ⟨hc256, a, ho, hrd⟩ := H3'.out n c hc
            have cc := Hst.out.rd hrd
            subst ho
            have htm : Int.tmod (c : Int) 3 = ((c % 3 : Nat) : Int) := by rw [Int.tmod_eq_emod_of_nonneg (by omega)]; omega
            clear hc hrd
            have hcase : c % 3 = 0 ∨ c % 3 = 1 ∨ c % 3 = 2 := by omega
            rcases hcase with hcase | hcase | hcase
            · rw [hcase] at htm
              clear hcase
              go_wp2_with fail
              go_roundw
              case rel => exact ⟨n + 1, j, M, col, by omega, by go_num, Hcol.out, fun r hr => Hout.out r (fun h => hr (by rw [Htake.out]; exact List.mem_append_left _ h)), Hst.out.to (SP.mul_left_comm _ _ _)⟩
              case measure => simp [intOf]; omega
            · rw [hcase] at htm
              clear hcase
              have hcall := (shade_tr k M rx (by rw [HN.out]; exact Hrr.out.2)).use (Hst.out.to (Q := MarkP k M * (RowP 36 (.slice (some ⟨g, 0, none⟩) l.length cl) (l.map refV) * MapP mb j (colF col))) (by simp only [SP.mul_assoc, SP.mul_left_comm, SP.mul_comm]))
              have Hcall := Lib.hid hcall
              clear hcall
              go_wp2_with fail
              refine Hcall.out.mono ?_
              rintro e w6 ⟨rfl, h20⟩
              have h21 : St (MapP mb j (colF col) * (RowP 36 (.slice (some ⟨g, 0, none⟩) l.length cl) (l.map refV) * MarkP k (M.shade k.room rx))) F w6 := h20.to (by simp only [SP.mul_assoc, SP.mul_left_comm, SP.mul_comm])
              obtain ⟨w7, hput, h22⟩ := h21.put (P := Try.prog) Try.underlying35 Try.underlying36 (rx : Int) (.int .i64 1)
              have e22 : updI (colF col) (rx : Int) (some (.int .i64 1)) = colF (updI col rx 1) := colF_put col rx 1 (by decide)
              rw [e22] at h22
              have H22 := Lib.hid h22
              have hcol2 : ColM (M.shade k.room rx) (updI col rx 1) := by
                have := Hcol.out.shade k.room (r := rx) (by have := Hrr.out.1; omega)
                rw [Hc0.out] at this
                exact this
              have Hcol2 := Lib.hid hcol2
              clear h20 h21 h22 e22 hcol2 Hcall crx cc
              go_wp2_with fail
              go_roundw
              case rel =>
                refine ⟨n + 1, _, _, updI col rx 1, by omega, by go_num, Hcol2.out, fun r hr => ?_, H22.out⟩
                have hne : ¬ (r : Int) = (rx : Int) := by
                  intro e
                  have e2 : r = rx := by omega
                  exact hr (by rw [Htake.out, e2]; simp)
                simp only [updI, if_neg hne]
                exact Hout.out r (fun h => hr (by rw [Htake.out]; exact List.mem_append_left _ h))
              case measure => simp [intOf]; omega
            · rw [hcase] at htm
              clear hcase
              have hcall := (blacken_tr k M rx (by rw [HN.out]; exact Hrr.out.2) (by have := Hrr.out.1; omega)).use (Hst.out.to (Q := MarkP k M * (RowP 36 (.slice (some ⟨g, 0, none⟩) l.length cl) (l.map refV) * MapP mb j (colF col))) (by simp only [SP.mul_assoc, SP.mul_left_comm, SP.mul_comm]))
              have Hcall := Lib.hid hcall
              clear hcall
              go_wp2_with fail
              refine Hcall.out.mono ?_
              rintro e w6 ⟨rfl, h20⟩
              have h21 : St (MapP mb j (colF col) * (RowP 36 (.slice (some ⟨g, 0, none⟩) l.length cl) (l.map refV) * MarkP k ({ M with md := upd M.md rx true, sc := upd M.sc rx true }))) F w6 := h20.to (by simp only [SP.mul_assoc, SP.mul_left_comm, SP.mul_comm])
              obtain ⟨w7, hput, h22⟩ := h21.put (P := Try.prog) Try.underlying35 Try.underlying36 (rx : Int) (.int .i64 2)
              have e22 : updI (colF col) (rx : Int) (some (.int .i64 2)) = colF (updI col rx 2) := colF_put col rx 2 (by decide)
              rw [e22] at h22
              have H22 := Lib.hid h22
              have hcol2 : ColM ({ M with md := upd M.md rx true, sc := upd M.sc rx true }) (updI col rx 2) := by
                exact Hcol.out.blacken
              have Hcol2 := Lib.hid hcol2
              clear h20 h21 h22 e22 hcol2 Hcall crx cc
              go_wp2_with fail
              go_roundw
              case rel =>
                refine ⟨n + 1, _, _, updI col rx 2, by omega, by go_num, Hcol2.out, fun r hr => ?_, H22.out⟩
                have hne : ¬ (r : Int) = (rx : Int) := by
                  intro e
                  have e2 : r = rx := by omega
                  exact hr (by rw [Htake.out, e2]; simp)
                simp only [updI, if_neg hne]
                exact Hout.out r (fun h => hr (by rw [Htake.out]; exact List.mem_append_left _ h))
              case measure => simp [intOf]; omega
          · have hcs' : ¬ (n : Int) < cs.length := by omega
            go_wp2_with fail
            go_roundw
            case rel => exact ⟨n + 1, j, M, col, by omega, by go_num, Hcol.out, fun r hr => Hout.out r (fun h => hr (by rw [Htake.out]; exact List.mem_append_left _ h)), Hst.out.to (SP.mul_left_comm _ _ _)⟩
            case measure => simp [intOf]; omega
        · obtain rfl : n = l.length := by omega
          clear hout
          have Hst := Lib.hid hst
          have Hcol := Lib.hid hcol
          clear hst hcol
          go_wp2_with fail
          refine ((djNew_tr k.m).use (Hst.out.mul1.to (SP.mul_comm _ _))).mono ?_
          rintro e w6 ⟨b, rfl, h20⟩
          have h21 : St (MapP mb j (colF col) * (RowP 36 (.slice ol l.length cl) (l.map refV) * (boxP b (.pointer (some ⟨k.m, 0, none⟩)) 97 * MarkP k M))) F w6 := h20.to (by simp only [SP.mul_assoc, SP.mul_left_comm, SP.mul_comm])
          have H21 := Lib.hid h21
          clear h20 h21 Hst
          have h22 : St (MapP mb j (colF col) * (RowP 36 (.slice ol l.length cl) (l.map refV) * (boxP b (.pointer (some ⟨k.m, 0, none⟩)) 97 * MarkP k M))) F w6 := H21.out
          clear H21
          go_wp2_with fail
          go_loopw [75] (fun v wr => ∃ (n j : Nat) (M : Mk) (col : Int → Nat), n ≤ ws.length ∧ v = .int .i64 n ∧ ColM M col ∧ St (MapP mb j (colF col) * (RowP 36 (.slice ol l.length cl) (l.map refV) * (boxP b (.pointer (some ⟨k.m, 0, none⟩)) 97 * MarkP k M))) F wr) (fun v _ => ws.length - (intOf v).toNat)
          case atStart => exact ⟨0, j, M, col, Nat.zero_le _, rfl, Hcol.out, h22⟩
          case round =>
            clear h22 Hcol
            obtain ⟨n, j, M, col, hn, rfl, hcol, hst⟩ := hrel
            have Hst := Lib.hid hst
            have Hcol := Lib.hid hcol
            clear hst hcol
            by_cases hlt : n < ws.length
            · have hlt' : (n : Int) < ws.length := by omega
              have hw3 : IntKind.i64.wrap ((n : Int) + 1) = ((n + 1 : Nat) : Int) := by rw [IntKind.wrap_i64]; omega
              have hn0 : 0 ≤ (n : Int) := by omega
              obtain ⟨x, a, hx, ho, ⟨hx1, hx2⟩, cx1, cx2⟩ := InPairs.next H4'.out Hst.out hlt
              subst ho
              clear hx
              by_cases hl0 : l.length = 0
              · have hlb : ((l.length : Int) == 0) = true := by simp [hl0]
                go_wp2_with fail
                refine (djRemark_any _ _).mono ?_
                rintro e w7 ⟨rfl, rfl⟩
                go_wp2_with fail
                refine (djReset_any _ _).mono ?_
                rintro e w8 ⟨rfl, rfl⟩
                have hl0' : ¬ (0 : Int) < l.length := by omega
                go_wp2_with fail
                refine wp_loop_once ?_
                go_wp2_with fail
                go_ret
                exact ⟨rfl, (Hst.out.alloc _).frame⟩
              · have hlb : ((l.length : Int) == 0) = false := by rw [beq_eq_false_iff_ne]; omega
                go_wp2_with fail
                have hb := Hst.out.alloc (.cells #[.int .u8 x.1, .int .u8 x.2] 41)
                have h31 : St (RowP 36 (.slice ol l.length cl) (l.map refV) * ((boxP b (.pointer (some ⟨k.m, 0, none⟩)) 97 * MarkP k M) * (pts wr.heap.size (.cells #[.int .u8 x.1, .int .u8 x.2] 41 (0, 0)) * MapP mb j (colF col)))) F (wr.alloc (.cells #[.int .u8 x.1, .int .u8 x.2] 41)) := hb.to (by simp only [SP.mul_assoc, SP.mul_left_comm, SP.mul_comm])
                obtain ⟨rx, g, hmx, hrx, e1, crx, ht1, hi1⟩ := h31.pick hl0 x.1
                obtain ⟨ry, g', hmy, hry, e2, cry, ht2, hi2⟩ := h31.pick hl0 x.2
                subst e1
                cases e2
                have cb0 : (wr.alloc (.cells #[.int .u8 x.1, .int .u8 x.2] 41)).cell? ⟨wr.heap.size, 0, none⟩ = some (.int .u8 x.1) := by rw [cell_of hb.at]; rfl
                have cb1 : (wr.alloc (.cells #[.int .u8 x.1, .int .u8 x.2] 41)).cell? ⟨wr.heap.size, 1, none⟩ = some (.int .u8 x.2) := by rw [cell_of hb.at]; rfl
                have Hmx := Lib.hid (HM.out.ref hmx)
                have Hmy := Lib.hid (HM.out.ref hmy)
                have H31 := Lib.hid h31
                clear hb h31 hmx hmy hrx hry cx1 cx2
                generalize wr.alloc (.cells #[.int .u8 x.1, .int .u8 x.2] 41) = wa at *
                generalize wr.heap.size = bb at *
                go_quiet (fail)
                have H32 := Lib.hid (H31.out.drewN nq)
                clear H31 crx cry cb0 cb1 ht1 ht2 hi1 hi2
                generalize wa.drewN nq = wb at *
                go_wp2_with fail
                refine (djPre_any _ _ _ _).mono ?_
                rintro e w9 ⟨rfl, rfl⟩
                have hq : St (pts bb (.cells #[.int .u8 x.1, .int .u8 x.2] 41 (0, 0)) * (RowP 36 (.slice (some ⟨g, 0, none⟩) l.length cl) (l.map refV) * ((boxP b (.pointer (some ⟨k.m, 0, none⟩)) 97 * MarkP k M) * MapP mb j (colF col)))) F w9 := H32.out.to (SP.x3 _ _ _ _)
                have cb0 : w9.cell? ⟨bb, 0, none⟩ = some (.int .u8 x.1) := by rw [cell_of hq.at]; rfl
                have cb1 : w9.cell? ⟨bb, 1, none⟩ = some (.int .u8 x.2) := by rw [cell_of hq.at]; rfl
                clear hq
                go_wp2_with fail
                refine ((djPost_tr b k M _ _ ry _ _ (by rw [HN.out]; exact Hmy.out.2)).use (H32.out.to (SP.mul_left_comm _ _ _))).mono ?_
                rintro e w10 ⟨rfl, h33⟩
                have H33 := Lib.hid h33
                clear h33 H32 cb0 cb1
                go_wp2_with fail
                refine ((djPost_tr b k (M.shade k.room ry) _ _ 0 _ _ (by rw [HN.out]; decide)).use H33.out).mono ?_
                rintro e w11 ⟨rfl, h34⟩
                rw [Mk.shade_zero] at h34
                have h35 : St (MapP mb j (colF col) * (RowP 36 (.slice (some ⟨g, 0, none⟩) l.length cl) (l.map refV) * (boxP b (.pointer (some ⟨k.m, 0, none⟩)) 97 * MarkP k (M.shade k.room ry)))) F w11 :=
                  (h34.to (Q := MapP mb j (colF col) * (RowP 36 (.slice (some ⟨g, 0, none⟩) l.length cl) (l.map refV) * (boxP b (.pointer (some ⟨k.m, 0, none⟩)) 97 * MarkP k (M.shade k.room ry))) * pts bb (.cells #[.int .u8 x.1, .int .u8 x.2] 41 (0, 0))) (by simp only [SP.mul_assoc, SP.mul_left_comm, SP.mul_comm])).drop
                obtain ⟨ii, hii, hiz, _, _⟩ := info_parts info_int
                have hlook := h35.look (P := Try.prog) Try.underlying35 Try.underlying36 hii hiz (ry : Int)
                rw [colF_get] at hlook
                have Hcol2 : Hid (ColM (M.shade k.room ry) (updI col (ry : Int) (max (col ry) 1))) := Lib.hid (Hcol.out.shade k.room (by have := Hmy.out.1; omega))
                clear h34 H33
                by_cases h1 : (col ry : Int) < 1
                · have e1 : max (col ry) 1 = 1 := by omega
                  rw [e1] at Hcol2
                  obtain ⟨w12, hput, h36⟩ := h35.put (P := Try.prog) Try.underlying35 Try.underlying36 (ry : Int) (.int .i64 1)
                  have H36 := Lib.hid (h36.to (by rw [show updI (colF col) (ry : Int) (some (.int .i64 1)) = colF (updI col ry 1) from colF_put col ry 1 (by decide)]))
                  clear h35 h36 e1
                  go_wp2_with fail
                  go_roundw
                  case rel => exact ⟨n + 1, _, _, _, by omega, by go_num, Hcol2.out, H36.out⟩
                  case measure => simp [intOf]; omega
                · have e1 : max (col ry) 1 = col ry := by omega
                  rw [e1] at Hcol2
                  obtain ⟨w12, hput, h36⟩ := h35.put (P := Try.prog) Try.underlying35 Try.underlying36 (ry : Int) (.int .i64 (col ry))
                  have H36 := Lib.hid (h36.to (by rw [show updI (colF col) (ry : Int) (some (.int .i64 (col ry))) = colF (updI col ry (col ry)) from colF_put col ry (col ry) (by omega)]))
                  clear h35 h36 e1
                  go_wp2_with fail
                  go_roundw
                  case rel => exact ⟨n + 1, _, _, _, by omega, by go_num, Hcol2.out, H36.out⟩
                  case measure => simp [intOf]; omega
            · obtain rfl : n = ws.length := by omega
              go_wp2_with fail
              refine (djRemark_any _ _).mono ?_
              rintro e w7 ⟨rfl, rfl⟩
              go_wp2_with fail
              refine (djReset_any _ _).mono ?_
              rintro e w8 ⟨rfl, rfl⟩
              go_wp2_with fail
              have h40 : St (MarkP k M * (MapP mb j (colF col) * RowP 36 (.slice ol l.length cl) (l.map refV))) F w8 :=
                (Hst.out.to (Q := MarkP k M * (MapP mb j (colF col) * RowP 36 (.slice ol l.length cl) (l.map refV)) * boxP b (.pointer (some ⟨k.m, 0, none⟩)) 97) (by simp only [SP.mul_assoc, SP.mul_left_comm, SP.mul_comm])).drop
              clear Hst
              go_loopw [135] (fun v wr => ∃ (n : Nat), n ≤ l.length ∧ v = .int .i64 n ∧ St (MarkP k M * (MapP mb j (colF col) * RowP 36 (.slice ol l.length cl) (l.map refV))) F wr) (fun v _ => l.length - (intOf v).toNat)
              case atStart => exact ⟨0, Nat.zero_le _, rfl, h40⟩
              case round =>
                clear h40
                obtain ⟨n, hn, rfl, hst⟩ := hrel
                by_cases hlt : n < l.length
                · have hlt' : (n : Int) < l.length := by omega
                  have hlen : l.length ≤ 40 := by have := HM.out.len; have := hs.1; omega
                  have hw3 : IntKind.i64.wrap ((n : Int) + 1) = ((n + 1 : Nat) : Int) := by rw [IntKind.wrap_i64]; omega
                  have hn0 : 0 ≤ (n : Int) := by omega
                  obtain ⟨rx, hrx⟩ : ∃ r, l[n]? = some r := ⟨l[n], by simp [hlt]⟩
                  have Hrr := Lib.hid (HM.out.ref (List.mem_iff_getElem?.2 ⟨_, hrx⟩))
                  obtain ⟨g, eg, crx⟩ := (hst.to (SP.l3 _ _ _)).refAt hrx
                  subst eg
                  obtain ⟨ii, hii, hiz, _, _⟩ := info_parts info_int
                  have Hst := Lib.hid hst
                  clear hst hrx
                  go_wp2_with fail
                  have hS := Hst.out.drew
                  have hlk : ∀ W', St (MarkP k M * (MapP mb j (colF col) * RowP 36 (.slice (some ⟨g, 0, none⟩) l.length cl) (l.map refV))) F W' → (Instr.lookup 35 (.map (some mb)) (.int .i64 rx) false).run Try.prog W' = .ok (.int .i64 (col rx)) W' := by
                    intro W' hW
                    have hlook := (hW.to (SP.mul_left_comm _ _ _)).look (P := Try.prog) Try.underlying35 Try.underlying36 hii hiz (rx : Int)
                    rw [colF_get] at hlook
                    exact hlook
                  have Hlk := Lib.hid hlk
                  have Hm := (marked_tr k M rx (by rw [HN.out]; exact Hrr.out.2)).kp (MapP mb j (colF col) * RowP 36 (.slice (some ⟨g, 0, none⟩) l.length cl) (l.map refV)) F
                  have Hs' := (scanned_tr k M rx (by rw [HN.out]; exact Hrr.out.2)).kp (MapP mb j (colF col) * RowP 36 (.slice (some ⟨g, 0, none⟩) l.length cl) (l.map refV)) F
                  rw [show M.md rx = decide (0 < (col rx : Int)) by rw [(Hcol.out rx).1]; simp] at Hm
                  rw [show M.sc rx = ((col rx : Int) == 2) by rw [(Hcol.out rx).2]; have e : decide (col rx = 2) = decide ((col rx : Int) = 2) := by congr 1; simp only [eq_iff_iff]; omega
                                                              rw [e]; rfl] at Hs'
                  clear hlk crx Hst
                  refine wp_region_held (S := fun W' => St (MarkP k M * (MapP mb j (colF col) * RowP 36 (.slice (some ⟨g, 0, none⟩) l.length cl) (l.map refV))) F W') (by kernel_rfl) ?_
                  refine wpAnyH_take (i := 0) (v := _) rfl (by kernel_rfl) (by kernel_rfl) (by kernel_rfl) (fun _ _ _ h => h) (.inl ⟨rfl, fun W' hW => by have hl := Hlk.out W' hW; go_simp; rfl⟩) hS ?_
                  refine wpAnyH_take (i := 1) (v := _) rfl (by kernel_rfl) (by kernel_rfl) (by kernel_rfl) (fun _ _ _ h => h) (.inl ⟨rfl, fun W' hW => by have hl := Hlk.out W' hW; go_simp; rfl⟩) hS ?_
                  refine wpAnyH_take (i := 3) (v := _) rfl (by kernel_rfl) (by kernel_rfl) (by kernel_rfl) (fun _ _ _ h => h) (.inl ⟨rfl, fun W' hW => by have hl := Hlk.out W' hW; go_simp; rfl⟩) hS ?_
                  refine wpAnyH_take (i := 4) (v := _) rfl (by kernel_rfl) (by kernel_rfl) (by kernel_rfl) (fun _ _ _ h => h) (.inl ⟨rfl, fun W' hW => by have hl := Hlk.out W' hW; go_simp; rfl⟩) hS ?_
                  refine wpAnyH_take (i := 5) (v := _) rfl (by kernel_rfl) (by kernel_rfl) (by kernel_rfl) (fun _ _ _ h => h) (.inl ⟨rfl, fun W' hW => by have hl := Hlk.out W' hW; go_simp; rfl⟩) hS ?_
                  refine wpAnyH_take (i := 6) (v := _) rfl (by kernel_rfl) (by kernel_rfl) (by kernel_rfl) (fun _ _ _ h => h) (.inl ⟨rfl, fun W' hW => by have hl := Hlk.out W' hW; go_simp; rfl⟩) hS ?_
                  refine wpAnyH_all (rs := [2]) (by kernel_rfl) (by simp) (fun q hq => ?_)
                  obtain rfl : q = 2 := by simpa using hq
                  clear hq
                  refine wpOp_step rfl (fun K' hK' => ?_)
                  go_simp
                  refine (Hm _ hS).mono ?_
                  clear hS
                  rintro e wS ⟨rfl, hS⟩
                  refine hK' _ _ ⟨hS, ?_⟩
                  clear hK' K'
                  refine wpAnyH_take (i := 7) (v := _) rfl (by kernel_rfl) (by kernel_rfl) (by kernel_rfl) (fun _ _ _ h => h) (.inl ⟨rfl, fun W' hW => by have hl := Hlk.out W' hW; go_simp; rfl⟩) hS ?_
                  refine wpAnyH_take (i := 8) (v := _) rfl (by kernel_rfl) (by kernel_rfl) (by kernel_rfl) (fun _ _ _ h => h) (.inl ⟨rfl, fun W' hW => by have hl := Hlk.out W' hW; go_simp; rfl⟩) hS ?_
                  go_simp
                  refine wpAnyH_take (i := 9) (v := _) rfl (by kernel_rfl) (by kernel_rfl) (by kernel_rfl) (fun _ _ _ h => h) (.inl ⟨rfl, fun W' hW => by have hl := Hlk.out W' hW; go_simp; rfl⟩) hS ?_
                  refine wpAnyH_take (i := 10) (v := _) rfl (by kernel_rfl) (by kernel_rfl) (by kernel_rfl) (fun _ _ _ h => h) (.inl ⟨rfl, fun W' hW => by have hl := Hlk.out W' hW; go_simp; rfl⟩) hS ?_
                  go_simp
                  refine wpAnyH_take (i := 12) (v := _) rfl (by kernel_rfl) (by kernel_rfl) (by kernel_rfl) (fun _ _ _ h => h) (.inl ⟨rfl, fun W' hW => by have hl := Hlk.out W' hW; go_simp; rfl⟩) hS ?_
                  refine wpAnyH_take (i := 13) (v := _) rfl (by kernel_rfl) (by kernel_rfl) (by kernel_rfl) (fun _ _ _ h => h) (.inl ⟨rfl, fun W' hW => by have hl := Hlk.out W' hW; go_simp; rfl⟩) hS ?_
                  go_simp
                  refine wpAnyH_take (i := 14) (v := _) rfl (by kernel_rfl) (by kernel_rfl) (by kernel_rfl) (fun _ _ _ h => h) (.inl ⟨rfl, fun W' hW => by have hl := Hlk.out W' hW; go_simp; rfl⟩) hS ?_
                  refine wpAnyH_take (i := 15) (v := _) rfl (by kernel_rfl) (by kernel_rfl) (by kernel_rfl) (fun _ _ _ h => h) (.inl ⟨rfl, fun W' hW => by have hl := Hlk.out W' hW; go_simp; rfl⟩) hS ?_
                  go_simp
                  refine wpAnyH_all (rs := [11]) (by kernel_rfl) (by simp) (fun q hq => ?_)
                  obtain rfl : q = 11 := by simpa using hq
                  clear hq
                  refine wpOp_step rfl (fun K' hK' => ?_)
                  go_simp
                  refine (Hs' _ hS).mono ?_
                  clear hS
                  rintro e wS ⟨rfl, hS⟩
                  refine hK' _ _ ⟨hS, ?_⟩
                  clear hK' K'
                  refine wpAnyH_take (i := 16) (v := _) rfl (by kernel_rfl) (by kernel_rfl) (by kernel_rfl) (fun _ _ _ h => h) (.inl ⟨rfl, fun W' hW => by have hl := Hlk.out W' hW; go_simp; rfl⟩) hS ?_
                  refine wpAnyH_take (i := 17) (v := _) rfl (by kernel_rfl) (by kernel_rfl) (by kernel_rfl) (fun _ _ _ h => h) (.inl ⟨rfl, fun W' hW => by have hl := Hlk.out W' hW; go_simp; rfl⟩) hS ?_
                  refine wpAnyH_done (by kernel_rfl) ?_ _
                  go_wp2_with fail
                  go_roundw
                  case rel => exact ⟨n + 1, by omega, by go_num, hS⟩
                  case measure => simp [intOf]; omega
                · obtain rfl : n = l.length := by omega
                  go_wp2_with fail
                  go_ret
                  exact ⟨rfl, hst.frame⟩
    · have hw' : (40 : Int) < ws.length := by omega
      go_wp2_with fail
      refine Hsm.out.mono ?_
      rintro e w2 ⟨rfl, h7⟩
      clear Hsm
      go_wp2_with fail
      go_ret
      exact ⟨rfl, h7.drop⟩
  · have e1 : (decide (fs.length ≤ 40) && decide (es.length ≤ 120)) = false := by
      rcases Classical.not_and_iff_not_or_not.1 hs with h | h <;> simp [h]
    rw [e1] at Hsm
    have Hsm := Lib.hid Hsm
    rename_i Hsm0
    clear Hsm0 e1
    go_wp2_with fail
    refine Hsm.out.mono ?_
    rintro e w2 ⟨rfl, h7⟩
    clear Hsm
    go_wp2_with fail
    go_ret
    exact ⟨rfl, h7.drop⟩
end Go.Proofs.Ytknmlfolbapmpaa
