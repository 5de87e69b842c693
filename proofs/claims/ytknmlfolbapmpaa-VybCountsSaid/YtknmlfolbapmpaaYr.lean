import Derived.Test.YtknmlfolbapmpaaYu
import Derived.Test.YtknmlfolbapmpaaPop
import Derived.Deep.LoopGhost
import Derived.Deep.DeepCutAuto
import Derived.Deep.CutBlock
namespace Go.Proofs.Ytknmlfolbapmpaa
open Go Go.RowKit

theorem Kp.of_any {P : Program} {f : FuncId} {args : Array Value} {v : Value} (h : ∀ w, Calls P f args w fun e w' => e = .returned v ∧ w' = w) (X : SP) (F : Fr) : Kp P f args v X F :=
  fun w hw => (h w).mono fun _ _ ⟨a, b⟩ => ⟨a, b ▸ hw⟩
/-- Three objects' references. -/
theorem St.ref3 {o : Option Addr} {x y z c : Nat} {R : SP} {F : Fr} {w : World} (h : St (RowP 36 (.slice o ([x, y, z] : List Nat).length c) ([x, y, z].map refV) * R) F w) :
    ∃ g, o = some ⟨g, 0, none⟩ ∧ w.cell? ⟨g, 0, none⟩ = some (.int .i64 x) ∧ w.cell? ⟨g, 1, none⟩ = some (.int .i64 y) ∧ w.cell? ⟨g, 2, none⟩ = some (.int .i64 z) := by
  obtain ⟨g, rfl, c0⟩ := h.refAt (j := 0) (r := x) rfl
  obtain ⟨_, e1, c1⟩ := h.refAt (j := 1) (r := y) rfl
  cases e1
  obtain ⟨_, e2, c2⟩ := h.refAt (j := 2) (r := z) rfl
  cases e2
  exact ⟨g, rfl, c0, c1, c2⟩
set_option maxRecDepth 100000 in
set_option maxHeartbeats 20000000 in
/-- fit. -/
theorem yuFit : Tr0 Try.prog 30 #[] 1 (.bool true) 1 := by
  intro F w h
  have hb := h.alloc (.cells #[.int .u8 2, .int .u8 2, .int .u8 2] 5)
  have Hb := Lib.hid hb
  clear hb h
  go_enter Try.func30, Try.ntmps30
  go_wp2_with fail
  refine (made_lit [2, 2, 2] (by decide) (by decide) w.heap.size 3 5 F _ Hb.out).mono ?_
  rintro e w1 ⟨i, A, l, v, m, hM, rfl, h1⟩
  obtain ⟨x, y, z, rfl⟩ : ∃ x y z, l = [x, y, z] := by
    have := hM.len
    match l, this with
    | [x, y, z], _ => exact ⟨x, y, z, rfl⟩
  have hx := hM.ref (r := x) (by simp)
  have hy := hM.ref (r := y) (by simp)
  have hz := hM.ref (r := z) (by simp)
  have hnd := hM.nd
  have hne : x ≠ y ∧ z ≠ y := by simp at hnd; omega
  have hnp := hM.np
  have h2 : St (RowP 36 v ([x, y, z].map refV) * ArenaP i A) F w1 := (h1.to (Q := RowP 36 v ([x, y, z].map refV) * ArenaP i A * (GroupP 36 m (outG A [x, y, z]) * 1)) (by simp only [SP.mul_assoc, SP.mul_left_comm, SP.mul_comm])).drop
  obtain ⟨o, cap, hv⟩ := h2.rowSlice
  have hv' : v = .slice o ([x, y, z] : List Nat).length cap := hv
  subst hv'
  have H2 := Lib.hid h2
  clear h1 h2 hM hv Hb hnd
  go_wp2_with fail
  refine ((mkNew_tr i A 4 (by decide)).use (H2.out.to (SP.mul_comm _ _))).mono ?_
  rintro e w2 ⟨k, rfl, hx2⟩
  obtain ⟨⟨ha, hN, hroom⟩, h3⟩ := St.whm.1 hx2
  have HN : Hid (k.N = 2049) := Lib.hid (by rw [hN, hnp])
  have H3 := Lib.hid h3
  clear hx2 ha hN hroom hnp H2 h3
  go_wp2_with fail
  refine ((yuNew_tr k.m).use (H3.out.mul1.to (SP.mul_comm _ _))).mono ?_
  rintro e w3 ⟨b, rfl, h4⟩
  clear H3
  have h5 : St (YuP b k ⟨fun _ => false, fun _ => false, [], false⟩ * RowP 36 (.slice o ([x, y, z] : List Nat).length cap) ([x, y, z].map refV)) F w3 :=
    (h4.to (Q := YuP b k ⟨fun _ => false, fun _ => false, [], false⟩ * RowP 36 (.slice o ([x, y, z] : List Nat).length cap) ([x, y, z].map refV) * ArenaP i A) (by unfold YuP; simp only [SP.mul_assoc, SP.mul_left_comm, SP.mul_comm])).drop
  obtain ⟨g, rfl, _⟩ := (h5.to (SP.mul_comm _ _)).ref3
  have hlk : ∀ (X : SP) W', St (X * RowP 36 (.slice (some ⟨g, 0, none⟩) ([x, y, z] : List Nat).length cap) ([x, y, z].map refV)) F W' → W'.cell? ⟨g, 0, none⟩ = some (.int .i64 x) ∧ W'.cell? ⟨g, 1, none⟩ = some (.int .i64 y) ∧ W'.cell? ⟨g, 2, none⟩ = some (.int .i64 z) := by
    intro X W' hW
    obtain ⟨_, e, c⟩ := (hW.to (SP.mul_comm _ _)).ref3
    cases e
    exact c
  have Hlk := Lib.hid hlk
  have H5 := Lib.hid h5
  clear h4 h5 hlk
  go_wp2_with fail
  have hS := Hlk.out _ _ H5.out.drew
  refine wp_region_held (S := fun W' => W'.cell? ⟨g, 0, none⟩ = some (.int .i64 x) ∧ W'.cell? ⟨g, 1, none⟩ = some (.int .i64 y) ∧ W'.cell? ⟨g, 2, none⟩ = some (.int .i64 z)) (by kernel_rfl) ?_
  refine wpAnyH_take (i := 0) (v := _) rfl (by kernel_rfl) (by kernel_rfl) (by kernel_rfl) (fun _ _ _ h => h) (.inl ⟨rfl, fun W' hW => by obtain ⟨q1, q2, q3⟩ := hW; go_simp; rfl⟩) hS ?_
  refine wpAnyH_take (i := 1) (v := _) rfl (by kernel_rfl) (by kernel_rfl) (by kernel_rfl) (fun _ _ _ h => h) (.inl ⟨rfl, fun W' hW => by obtain ⟨q1, q2, q3⟩ := hW; go_simp; rfl⟩) hS ?_
  refine wpAnyH_take (i := 2) (v := _) rfl (by kernel_rfl) (by kernel_rfl) (by kernel_rfl) (fun _ _ _ h => h) (.inl ⟨rfl, fun W' hW => by obtain ⟨q1, q2, q3⟩ := hW; go_simp; rfl⟩) hS ?_
  refine wpAnyH_take (i := 3) (v := _) rfl (by kernel_rfl) (by kernel_rfl) (by kernel_rfl) (fun _ _ _ h => h) (.inl ⟨rfl, fun W' hW => by obtain ⟨q1, q2, q3⟩ := hW; go_simp; rfl⟩) hS ?_
  refine wpAnyH_take (i := 4) (v := _) rfl (by kernel_rfl) (by kernel_rfl) (by kernel_rfl) (fun _ _ _ h => h) (.inl ⟨rfl, fun W' hW => by obtain ⟨q1, q2, q3⟩ := hW; go_simp; rfl⟩) hS ?_
  refine wpAnyH_take (i := 5) (v := _) rfl (by kernel_rfl) (by kernel_rfl) (by kernel_rfl) (fun _ _ _ h => h) (.inl ⟨rfl, fun W' hW => by obtain ⟨q1, q2, q3⟩ := hW; go_simp; rfl⟩) hS ?_
  refine wpAnyH_take (i := 6) (v := _) rfl (by kernel_rfl) (by kernel_rfl) (by kernel_rfl) (fun _ _ _ h => h) (.inl ⟨rfl, fun W' hW => by obtain ⟨q1, q2, q3⟩ := hW; go_simp; rfl⟩) hS ?_
  refine wpAnyH_all (rs := [7]) (by kernel_rfl) (by simp) (fun q hq => ?_)
  obtain rfl : q = 7 := by simpa using hq
  clear hq
  refine wpOp_step rfl (fun K' hK' => ?_)
  go_simp
  refine ((yuPre_tr b k _ x y (by rw [HN.out]; exact hy.2)).use H5.out.drew).mono ?_
  clear hS
  rintro e w4 ⟨rfl, h6⟩
  refine hK' _ _ ⟨Hlk.out _ _ h6, ?_⟩
  clear hK' K' H5
  refine wpAnyH_done (by kernel_rfl) ?_ _
  have H6 := Lib.hid h6
  clear h6
  go_wp2_with fail
  have hS := Hlk.out _ _ H6.out.drew
  refine wp_region_held (S := fun W' => W'.cell? ⟨g, 0, none⟩ = some (.int .i64 x) ∧ W'.cell? ⟨g, 1, none⟩ = some (.int .i64 y) ∧ W'.cell? ⟨g, 2, none⟩ = some (.int .i64 z)) (by kernel_rfl) ?_
  refine wpAnyH_take (i := 0) (v := _) rfl (by kernel_rfl) (by kernel_rfl) (by kernel_rfl) (fun _ _ _ h => h) (.inl ⟨rfl, fun W' hW => by obtain ⟨q1, q2, q3⟩ := hW; go_simp; rfl⟩) hS ?_
  refine wpAnyH_take (i := 1) (v := _) rfl (by kernel_rfl) (by kernel_rfl) (by kernel_rfl) (fun _ _ _ h => h) (.inl ⟨rfl, fun W' hW => by obtain ⟨q1, q2, q3⟩ := hW; go_simp; rfl⟩) hS ?_
  refine wpAnyH_take (i := 2) (v := _) rfl (by kernel_rfl) (by kernel_rfl) (by kernel_rfl) (fun _ _ _ h => h) (.inl ⟨rfl, fun W' hW => by obtain ⟨q1, q2, q3⟩ := hW; go_simp; rfl⟩) hS ?_
  refine wpAnyH_take (i := 3) (v := _) rfl (by kernel_rfl) (by kernel_rfl) (by kernel_rfl) (fun _ _ _ h => h) (.inl ⟨rfl, fun W' hW => by obtain ⟨q1, q2, q3⟩ := hW; go_simp; rfl⟩) hS ?_
  refine wpAnyH_take (i := 4) (v := _) rfl (by kernel_rfl) (by kernel_rfl) (by kernel_rfl) (fun _ _ _ h => h) (.inl ⟨rfl, fun W' hW => by obtain ⟨q1, q2, q3⟩ := hW; go_simp; rfl⟩) hS ?_
  refine wpAnyH_take (i := 5) (v := _) rfl (by kernel_rfl) (by kernel_rfl) (by kernel_rfl) (fun _ _ _ h => h) (.inl ⟨rfl, fun W' hW => by obtain ⟨q1, q2, q3⟩ := hW; go_simp; rfl⟩) hS ?_
  refine wpAnyH_take (i := 6) (v := _) rfl (by kernel_rfl) (by kernel_rfl) (by kernel_rfl) (fun _ _ _ h => h) (.inl ⟨rfl, fun W' hW => by obtain ⟨q1, q2, q3⟩ := hW; go_simp; rfl⟩) hS ?_
  refine wpAnyH_take (i := 7) (v := _) rfl (by kernel_rfl) (by kernel_rfl) (by kernel_rfl) (fun _ _ _ h => h) (.inl ⟨rfl, fun W' hW => by obtain ⟨q1, q2, q3⟩ := hW; go_simp; rfl⟩) hS ?_
  refine wpAnyH_take (i := 8) (v := _) rfl (by kernel_rfl) (by kernel_rfl) (by kernel_rfl) (fun _ _ _ h => h) (.inl ⟨rfl, fun W' hW => by obtain ⟨q1, q2, q3⟩ := hW; go_simp; rfl⟩) hS ?_
  refine wpAnyH_take (i := 9) (v := _) rfl (by kernel_rfl) (by kernel_rfl) (by kernel_rfl) (fun _ _ _ h => h) (.inl ⟨rfl, fun W' hW => by obtain ⟨q1, q2, q3⟩ := hW; go_simp; rfl⟩) hS ?_
  refine wpAnyH_take (i := 10) (v := _) rfl (by kernel_rfl) (by kernel_rfl) (by kernel_rfl) (fun _ _ _ h => h) (.inl ⟨rfl, fun W' hW => by obtain ⟨q1, q2, q3⟩ := hW; go_simp; rfl⟩) hS ?_
  refine wpAnyH_all (rs := [11]) (by kernel_rfl) (by simp) (fun q hq => ?_)
  obtain rfl : q = 11 := by simpa using hq
  clear hq
  refine wpOp_step rfl (fun K' hK' => ?_)
  go_simp
  refine ((yuPost_tr b k _ x y z false false (by rw [HN.out]; exact hy.2) (by rw [HN.out]; exact hz.2)).use H6.out.drew).mono ?_
  clear hS
  rintro e w5 ⟨rfl, h7⟩
  refine hK' _ _ ⟨Hlk.out _ _ h7, ?_⟩
  clear hK' K' H6
  refine wpAnyH_done (by kernel_rfl) ?_ _
  unfold yuPost at h7
  simp only [Bool.false_eq_true, if_false] at h7
  have hmd : ((Mk.shade k.room ⟨fun _ => false, fun _ => false, [], false⟩ y).shade k.room y).md = upd (fun _ => false) y true := by
    rw [Mk.shade_md _ _ (by omega), Mk.shade_md _ _ (by omega), upd_upd]
  generalize (Mk.shade k.room ⟨fun _ => false, fun _ => false, [], false⟩ y).shade k.room y = M2 at *
  have ey : M2.md y = true := by rw [hmd, upd_same]
  have ex : M2.md x = false := by rw [hmd, upd_other _ _ hne.1]
  have ez : M2.md z = false := by rw [hmd, upd_other _ _ hne.2]
  have h8 := St.yuMark.1 h7
  generalize hX : boxP b (yuV k.m) 99 = B at *
  have Hx := (marked_tr k M2 x (by rw [HN.out]; exact hx.2)).kp (B * RowP 36 (.slice (some ⟨g, 0, none⟩) ([x, y, z] : List Nat).length cap) ([x, y, z].map refV)) F
  have Hy := (marked_tr k M2 y (by rw [HN.out]; exact hy.2)).kp (B * RowP 36 (.slice (some ⟨g, 0, none⟩) ([x, y, z] : List Nat).length cap) ([x, y, z].map refV)) F
  have Hz := (marked_tr k M2 z (by rw [HN.out]; exact hz.2)).kp (B * RowP 36 (.slice (some ⟨g, 0, none⟩) ([x, y, z] : List Nat).length cap) ([x, y, z].map refV)) F
  have Hr := Kp.of_any (yuRescans_any (.pointer (some ⟨b, 0, none⟩))) (MarkP k M2 * (B * RowP 36 (.slice (some ⟨g, 0, none⟩) ([x, y, z] : List Nat).length cap) ([x, y, z].map refV))) F
  rw [ex] at Hx
  rw [ey] at Hy
  rw [ez] at Hz
  have hlk2 : ∀ W', St (MarkP k M2 * (B * RowP 36 (.slice (some ⟨g, 0, none⟩) ([x, y, z] : List Nat).length cap) ([x, y, z].map refV))) F W' → W'.cell? ⟨g, 0, none⟩ = some (.int .i64 x) ∧ W'.cell? ⟨g, 1, none⟩ = some (.int .i64 y) ∧ W'.cell? ⟨g, 2, none⟩ = some (.int .i64 z) :=
    fun W' hW => Hlk.out _ _ (hW.to (SP.mul_assoc _ _ _).symm)
  have Hlk2 := Lib.hid hlk2
  clear Hlk hlk2 hmd ex ey ez hX h7
  have c0 := Hlk2.out _ h8
  have ⟨c1, c2, c3⟩ := c0
  have H8 := Lib.hid h8
  clear h8 c0
  go_wp2_with fail
  refine (yuRescans_any _ _).mono ?_
  rintro e w6 ⟨rfl, rfl⟩
  go_wp2_with fail
  refine (Hy _ H8.out).mono ?_
  rintro e w7 ⟨rfl, h9⟩
  clear c1 c2 c3 H8 Hy
  have ⟨c1, c2, c3⟩ := Hlk2.out _ h9
  have H9 := Lib.hid h9
  clear h9
  go_wp2_with fail
  refine (Hx _ H9.out).mono ?_
  rintro e w8 ⟨rfl, h9⟩
  clear c1 c2 c3 H9 Hx
  have ⟨c1, c2, c3⟩ := Hlk2.out _ h9
  have H9 := Lib.hid h9
  clear h9
  go_wp2_with fail
  refine (Hz _ H9.out).mono ?_
  rintro e w9 ⟨rfl, h9⟩
  clear c1 c2 c3 H9 Hz
  go_wp2_with fail
  go_ret
  exact ⟨rfl, h9.frame⟩

/-- A marker's colours: white, or grey. -/
def ColY (M : Mk) (col : Int → Nat) : Prop := ColM M col ∧ ∀ z, col z ≤ 1
theorem ColY.shade {M : Mk} {col : Int → Nat} (h : ColY M col) (room : Nat) {r : Nat} (hr : r ≠ 0) : ColY (M.shade room r) (updI col (r : Int) 1) := by
  have h1 := h.1.shade room hr
  have e : max (col r) 1 = 1 := by have := h.2 r; omega
  rw [e] at h1
  refine ⟨h1, fun z => ?_⟩
  unfold updI
  split
  · exact Nat.le_refl _
  · exact h.2 z
theorem St.colPut {mb j : Nat} {col : Int → Nat} {R : SP} {F : Fr} {w : World} (h : St (MapP mb j (colF col) * R) F w) (z : Int) (c : Nat) (v : Int) (hc : c ≠ 0) (hv : v = (c : Int)) :
    ∃ w' j', (Instr.mapUpdate 35 (.map (some mb)) (.int .i64 z) (.int .i64 v)).run Try.prog w = .ok () w' ∧ St (MapP mb j' (colF (updI col z c)) * R) F w' := by
  subst hv
  obtain ⟨w', hput, h2⟩ := h.put (P := Try.prog) Try.underlying35 Try.underlying36 z (.int .i64 c)
  exact ⟨w', _, hput, h2.to (by rw [colF_put col z c hc])⟩
theorem St.colGet {mb j : Nat} {col : Int → Nat} {R : SP} {F : Fr} {w : World} (h : St (MapP mb j (colF col) * R) F w) (z : Int) :
    (Instr.lookup 35 (.map (some mb)) (.int .i64 z) false).run Try.prog w = .ok (.int .i64 (col z)) w := by
  obtain ⟨ii, hii, hiz, _, _⟩ := info_parts info_int
  have hlook := h.look (P := Try.prog) Try.underlying35 Try.underlying36 hii hiz z
  rw [colF_get] at hlook
  exact hlook

set_option maxRecDepth 100000 in
set_option maxHeartbeats 40000000 in
/-- YuasaRuns. -/
theorem yuasaRuns (F : Fr) (v1 v2 v4 : Value) (fs : List Nat) (es : List (Nat × Nat × Nat)) (ws : List (Nat × Nat × Nat × Nat)) (h1 : InBytes F v1 fs) (h2 : InTriples F v2 es) (h4 : InQuads F v4 ws)
    (w : World) (h : St 1 F w) : Calls Try.prog 4 #[.agg #[v1, v2], v4] w fun e w' => e = .returned (.bool true) ∧ St 1 F w' := by
  obtain ⟨o1, c1, rfl, H1⟩ := id h1
  obtain ⟨o2, c2, rfl, H2⟩ := id h2
  obtain ⟨o4, c4, rfl, H4⟩ := h4
  clear H1 H2
  have H1 := Lib.hid h1
  have H2 := Lib.hid h2
  have H4' := Lib.hid H4
  clear h1 h2 H4
  have hb := h.mul1.alloc (.cells #[.slice o1 fs.length c1, .slice o2 es.length c2] 25)
  have Hb := Lib.hid hb
  clear h hb
  go_enter Try.func4, Try.ntmps4
  go_wp2_with fail
  refine (yuFit.use (Hb.out.mul1.to (SP.mul_comm _ _))).mono ?_
  rintro e w1 ⟨rfl, h5⟩
  have h6 : St (pts w.heap.size (.cells #[.slice o1 fs.length c1, .slice o2 es.length c2] 25 (0, 0)) * 1) F w1 := h5.to (by simp only [SP.one_mul, SP.mul_one])
  have cg0 : w1.cell? ⟨w.heap.size, 0, none⟩ = some (.slice o1 fs.length c1) := by rw [cell_of h6.at]; rfl
  have cg1 : w1.cell? ⟨w.heap.size, 1, none⟩ = some (.slice o2 es.length c2) := by rw [cell_of h6.at]; rfl
  have hsm := (small_tr o1 o2 fs.length c1 es.length c2).use (h6.mul1.to (SP.mul_comm _ _))
  have Hsm := Lib.hid hsm
  clear h5 h6 hsm Hb
  have Hsm := Hsm.out
  by_cases hs : fs.length ≤ 40 ∧ es.length ≤ 120
  · have e1 : (decide (fs.length ≤ 40) && decide (es.length ≤ 120)) = true := by simp [hs.1, hs.2]
    rw [e1] at Hsm
    have Hsm := Lib.hid Hsm
    rename_i Hsm0
    clear Hsm0 e1
    by_cases hw40 : ws.length ≤ 40
    · have hw' : ¬ (40 : Int) < ws.length := by omega
      go_wp2_with fail
      refine Hsm.out.mono ?_
      rintro e w2 ⟨rfl, h7⟩
      clear Hsm
      have h8 : St (pts w.heap.size (.cells #[.slice o1 fs.length c1, .slice o2 es.length c2] 25 (0, 0)) * 1) F w2 := h7.to (by simp only [SP.one_mul, SP.mul_one])
      have cg0 : w2.cell? ⟨w.heap.size, 0, none⟩ = some (.slice o1 fs.length c1) := by rw [cell_of h8.at]; rfl
      have cg1 : w2.cell? ⟨w.heap.size, 1, none⟩ = some (.slice o2 es.length c2) := by rw [cell_of h8.at]; rfl
      have H8 : Hid (St 1 F w2) := Lib.hid h8.drop2
      clear h7 h8
      go_wp2_with fail
      refine (made F _ _ fs es H1.out H2.out hs.1 hs.2 _ H8.out).mono ?_
      rintro e w3 ⟨i, A, l, v, m, hM, rfl, h9⟩
      have h10 : St (ArenaP i A * RowP 36 v (l.map refV)) F w3 := (h9.to (Q := ArenaP i A * RowP 36 v (l.map refV) * GroupP 36 m (outG A l)) (by simp only [SP.mul_assoc])).drop
      have HM := Lib.hid hM
      have H10 := Lib.hid h10
      clear h9 h10 hM H8 cg0 cg1
      have hmk := fun W : World => run_makeMap (P := Try.prog) 35 W
      go_wp2_with fail
      refine ((mkNew_tr i A 64 (by decide)).use H10.out).mono ?_
      rintro e w4 ⟨k, rfl, hx⟩
      obtain ⟨⟨_, hN, _⟩, h11⟩ := St.whm.1 hx
      have HN : Hid (k.N = 2049) := Lib.hid (by rw [hN, HM.out.np])
      have H11 := Lib.hid h11
      clear hx hN h11 H10
      go_wp2_with fail
      refine ((yuNew_tr k.m).use (H11.out.mul1.to (SP.mul_comm _ _))).mono ?_
      rintro e w5 ⟨b, rfl, h12⟩
      have h13 : St (YuP b k ⟨fun _ => false, fun _ => false, [], false⟩ * RowP 36 v (l.map refV)) F w5 :=
        (h12.to (Q := YuP b k ⟨fun _ => false, fun _ => false, [], false⟩ * RowP 36 v (l.map refV) * ArenaP i A) (by unfold YuP; simp only [SP.mul_assoc, SP.mul_left_comm, SP.mul_comm])).drop
      obtain ⟨ol, cl, hv⟩ := (h13.to (SP.mul_comm _ _)).rowSlice
      rw [List.length_map] at hv
      subst hv
      have h14 := h13.mapNew
      have H14 := Lib.hid h14
      clear h12 h13 h14 H11
      go_wp2_with fail
      generalize w5.alloc (.map #[] 0) = w6 at *
      generalize w5.heap.size = mb at *
      have h15 : St (MapP mb 0 (colF fun _ => 0) * (YuP b k ⟨fun _ => false, fun _ => false, [], false⟩ * RowP 36 (.slice ol l.length cl) (l.map refV))) F w6 := by
        have e : colF (fun _ => 0) = fun _ => none := by funext x; simp [colF]
        rw [e]; exact H14.out
      clear H14
      go_loopg [43] ws.length (fun g v wr => ∃ (n j : Nat) (M : Mk) (col : Int → Nat), n ≤ ws.length ∧ g = ws.length - n ∧ v = .int .i64 n ∧ ColY M col ∧ St (MapP mb j (colF col) * (YuP b k M * RowP 36 (.slice ol l.length cl) (l.map refV))) F wr)
      case atStart => exact ⟨0, 0, _, fun _ => 0, Nat.zero_le _, rfl, rfl, ⟨fun _ => ⟨rfl, rfl⟩, fun _ => Nat.zero_le _⟩, h15⟩
      case round =>
        clear h15
        obtain ⟨n, j, M, col, hn, hg, rfl, hcol, hst⟩ := hrel
        have Hst := Lib.hid hst
        have Hcol := Lib.hid hcol
        have Hg := Lib.hid hg
        clear hst hcol hg
        by_cases hlt : n < ws.length
        · have hlt' : (n : Int) < ws.length := by omega
          have hw3 : IntKind.i64.wrap ((n : Int) + 1) = ((n + 1 : Nat) : Int) := by rw [IntKind.wrap_i64]; omega
          have hn0 : 0 ≤ (n : Int) := by omega
          obtain ⟨x, a, hx, ho, ⟨hx1, hx2, hx3, hx4⟩, cx1, cx2, cx3, cx4⟩ := InQuads.next H4'.out Hst.out hlt
          subst ho
          clear hx
          by_cases hl0 : l.length = 0
          · have hlb : ((l.length : Int) == 0) = true := by simp [hl0]
            go_wp2_with fail
            have h60 := (Hst.out.alloc (.cells #[.int .u8 x.1, .int .u8 x.2.1, .int .u8 x.2.2.1, .int .u8 x.2.2.2] 50)).drop2
            refine ((mkCount_tr k M).use (St.yuMark.1 (h60.to (SP.mul_left_comm _ _ _)))).mono ?_
            rintro e w7 ⟨rfl, h70⟩
            have H70 := Lib.hid h70
            clear h70
            go_wp2_with fail
            refine (yuRemark_any _ _).mono ?_
            rintro e w8 ⟨rfl, rfl⟩
            go_wp2_with fail
            refine (yuReset_any _ _).mono ?_
            rintro e w9 ⟨rfl, rfl⟩
            go_wp2_with fail
            refine ((mkCount_tr k M).use H70.out).mono ?_
            rintro e w10 ⟨rfl, h71⟩
            generalize setCount M.md k.N = cnt at *
            go_wp2_with fail
            go_ret
            exact ⟨by simp [go_sem], h71.frame⟩
          · have hlb : ((l.length : Int) == 0) = false := by rw [beq_eq_false_iff_ne]; omega
            go_wp2_with fail
            have hb := Hst.out.alloc (.cells #[.int .u8 x.1, .int .u8 x.2.1, .int .u8 x.2.2.1, .int .u8 x.2.2.2] 50)
            have h31 : St (RowP 36 (.slice ol l.length cl) (l.map refV) * (YuP b k M * (pts wr.heap.size (.cells #[.int .u8 x.1, .int .u8 x.2.1, .int .u8 x.2.2.1, .int .u8 x.2.2.2] 50 (0, 0)) * MapP mb j (colF col)))) F (wr.alloc (.cells #[.int .u8 x.1, .int .u8 x.2.1, .int .u8 x.2.2.1, .int .u8 x.2.2.2] 50)) := hb.to (by simp only [SP.mul_assoc, SP.mul_left_comm, SP.mul_comm])
            obtain ⟨rx, g, hmx, hrx, e1, crx, ht1, hi1⟩ := h31.pick hl0 x.1
            obtain ⟨ry, g', hmy, hry, e2, cry, ht2, hi2⟩ := h31.pick hl0 x.2.1
            subst e1
            cases e2
            obtain ⟨rz, g', hmz, hrz, e2, crz, ht3, hi3⟩ := h31.pick hl0 x.2.2.1
            cases e2
            have hp := hb.at
            have cb0 : (wr.alloc (.cells #[.int .u8 x.1, .int .u8 x.2.1, .int .u8 x.2.2.1, .int .u8 x.2.2.2] 50)).cell? ⟨wr.heap.size, 0, none⟩ = some (.int .u8 x.1) := by rw [cell_of hp]; rfl
            have cb1 : (wr.alloc (.cells #[.int .u8 x.1, .int .u8 x.2.1, .int .u8 x.2.2.1, .int .u8 x.2.2.2] 50)).cell? ⟨wr.heap.size, 1, none⟩ = some (.int .u8 x.2.1) := by rw [cell_of hp]; rfl
            have cb2 : (wr.alloc (.cells #[.int .u8 x.1, .int .u8 x.2.1, .int .u8 x.2.2.1, .int .u8 x.2.2.2] 50)).cell? ⟨wr.heap.size, 2, none⟩ = some (.int .u8 x.2.2.1) := by rw [cell_of hp]; rfl
            have Hmx := Lib.hid (HM.out.ref hmx)
            have Hmy := Lib.hid (HM.out.ref hmy)
            have Hmz := Lib.hid (HM.out.ref hmz)
            have H31 := Lib.hid h31
            clear hb hp h31 hmx hmy hmz hrx hry hrz cx1 cx2 cx3 cx4
            generalize wr.alloc (.cells #[.int .u8 x.1, .int .u8 x.2.1, .int .u8 x.2.2.1, .int .u8 x.2.2.2] 50) = wa at *
            generalize wr.heap.size = bb at *
            go_quiet (fail)
            have H32 := Lib.hid (H31.out.drewN nq)
            clear H31 crx cry crz cb0 cb1 cb2 ht1 ht2 ht3 hi1 hi2 hi3
            generalize wa.drewN nq = wb at *
            have cb3 : wb.cell? ⟨bb, 3, none⟩ = some (.int .u8 x.2.2.2) := by rw [cell_of (H32.out.to (SP.x3 _ _ _ _)).at]; rfl
            go_upto_block 2 with fail
            have h33 : St (MapP mb j (colF col) * (YuP b k M * RowP 36 (.slice (some ⟨g, 0, none⟩) l.length cl) (l.map refV))) F wb :=
              (H32.out.to (Q := MapP mb j (colF col) * (YuP b k M * RowP 36 (.slice (some ⟨g, 0, none⟩) l.length cl) (l.map refV)) * pts bb (.cells #[.int .u8 x.1, .int .u8 x.2.1, .int .u8 x.2.2.1, .int .u8 x.2.2.2] 50 (0, 0))) (by simp only [SP.mul_assoc, SP.mul_left_comm, SP.mul_comm])).drop
            have H33 := Lib.hid h33
            clear H32 h33 cb3 Hst
            generalize (bits BinOp.and IntKind.u8 (x.2.2.2 : Int) 1 == 1) = er
            generalize bits BinOp.and IntKind.u8 ((x.2.2.2 : Int) / 2) 3 = tg
            go_cut [] (fun wx => ∃ (j : Nat) (M : Mk) (col : Int → Nat), ColY M col ∧ St (MapP mb j (colF col) * (YuP b k M * RowP 36 (.slice (some ⟨g, 0, none⟩) l.length cl) (l.map refV))) F wx)
            case first =>
              have Hy := Lib.hid (yuPre_tr b k M rx ry (by rw [HN.out]; exact Hmy.out.2))
              have Hyz := Lib.hid (fun (x : Int) (bk er : Bool) => yuPost_tr b k M x ry rz bk er (by rw [HN.out]; exact Hmy.out.2) (by rw [HN.out]; exact Hmz.out.2))
              have Hz := Lib.hid (fun (x : Int) (bk er : Bool) => yuPost_tr b k M x 0 rz bk er (by rw [HN.out]; decide) (by rw [HN.out]; exact Hmz.out.2))
              have H0 := Lib.hid (yuPre_tr b k M rx 0 (by rw [HN.out]; decide))
              have hcy : ColY (M.shade k.room ry) (updI col ry 1) := Hcol.out.shade k.room (by have := Hmy.out.1; omega)
              have Hcy := Lib.hid hcy
              have Hcyz := Lib.hid (hcy.shade k.room (r := rz) (by have := Hmz.out.1; omega))
              have Hcz := Lib.hid (Hcol.out.shade k.room (r := rz) (by have := Hmz.out.1; omega))
              clear hcy
              by_cases t0 : tg = 0
              · have t0' : (tg == 0) = true := by simp [t0]
                clear t0
                go_wp2_with fail
                refine (Hy.out.use (H33.out.to (SP.mul_left_comm _ _ _))).mono ?_
                rintro e w7 ⟨rfl, h40⟩
                obtain ⟨w8, j', hput, h41⟩ := (h40.to (SP.mul_left_comm _ _ _)).colPut ry 1 1 (by decide) rfl
                have H41 := Lib.hid h41
                clear h40 h41
                go_wp2_with fail
                go_meet
                case rel => exact ⟨_, _, _, Hcy.out, H41.out⟩
              · have t0' : (tg == 0) = false := by simp [t0]
                clear t0
                by_cases t1 : tg = 1
                · have t1' : (tg == 1) = true := by simp [t1]
                  clear t1
                  cases er
                  · go_wp2_with fail
                    refine ((Hyz.out _ _ _).use (H33.out.to (SP.mul_left_comm _ _ _))).mono ?_
                    rintro e w7 ⟨rfl, h40⟩
                    obtain ⟨w8, j', hput, h41⟩ := (h40.to (SP.mul_left_comm _ _ _)).colPut ry 1 1 (by decide) rfl
                    have H41 := Lib.hid h41
                    clear h40 h41
                    go_wp2_with fail
                    go_meet
                    case rel => exact ⟨_, _, _, Hcy.out, H41.out⟩
                  · go_wp2_with fail
                    refine ((Hyz.out _ _ _).use (H33.out.to (SP.mul_left_comm _ _ _))).mono ?_
                    rintro e w7 ⟨rfl, h40⟩
                    obtain ⟨w8, j', hput, h41⟩ := (h40.to (SP.mul_left_comm _ _ _)).colPut ry 1 1 (by decide) rfl
                    obtain ⟨w9, j2, hput2, h42⟩ := h41.colPut rz 1 1 (by decide) rfl
                    have H42 := Lib.hid h42
                    clear h40 h41 h42
                    go_wp2_with fail
                    go_meet
                    case rel => exact ⟨_, _, _, Hcyz.out, H42.out⟩
                · have t1' : (tg == 1) = false := by simp [t1]
                  clear t1
                  by_cases t2 : tg = 2
                  · have t2' : (tg == 2) = true := by simp [t2]
                    clear t2
                    cases er
                    · go_wp2_with fail
                      refine ((Hz.out _ _ _).use (H33.out.to (SP.mul_left_comm _ _ _))).mono ?_
                      rintro e w7 ⟨rfl, h40⟩
                      have h41 : St (MapP mb j (colF col) * (YuP b k M * RowP 36 (.slice (some ⟨g, 0, none⟩) l.length cl) (l.map refV))) F w7 := by
                        have := h40.to (SP.mul_left_comm _ _ _)
                        unfold yuPost at this
                        rw [Mk.shade_zero] at this
                        exact this
                      have H41 := Lib.hid h41
                      clear h40 h41
                      go_wp2_with fail
                      go_meet
                      case rel => exact ⟨_, _, _, Hcol.out, H41.out⟩
                    · go_wp2_with fail
                      refine ((Hz.out _ _ _).use (H33.out.to (SP.mul_left_comm _ _ _))).mono ?_
                      rintro e w7 ⟨rfl, h40⟩
                      have h40' : St (MapP mb j (colF col) * (YuP b k (M.shade k.room rz) * RowP 36 (.slice (some ⟨g, 0, none⟩) l.length cl) (l.map refV))) F w7 := by
                        have := h40.to (SP.mul_left_comm _ _ _)
                        unfold yuPost at this
                        rw [Mk.shade_zero] at this
                        exact this
                      obtain ⟨w8, j', hput, h41⟩ := h40'.colPut rz 1 1 (by decide) rfl
                      have H41 := Lib.hid h41
                      clear h40 h40' h41
                      go_wp2_with fail
                      go_meet
                      case rel => exact ⟨_, _, _, Hcz.out, H41.out⟩
                  · have t2' : (tg == 2) = false := by simp [t2]
                    clear t2
                    go_wp2_with fail
                    refine (H0.out.use (H33.out.to (SP.mul_left_comm _ _ _))).mono ?_
                    rintro e w7 ⟨rfl, h40⟩
                    rw [Mk.shade_zero] at h40
                    have H41 := Lib.hid (h40.to (SP.mul_left_comm _ _ _))
                    clear h40
                    go_wp2_with fail
                    go_meet
                    case rel => exact ⟨_, _, _, Hcol.out, H41.out⟩
            case rest =>
              clear Hcol H33
              obtain ⟨j, M, col, hcol, hst⟩ := hcut
              have Hcol := Lib.hid hcol
              have Hst := Lib.hid hst
              clear hcol hst
              go_wp2_with fail
              have h50 : St (MarkP k M * (MapP mb j (colF col) * (RowP 36 (.slice (some ⟨g, 0, none⟩) l.length cl) (l.map refV) * boxP b (yuV k.m) 99))) F wc := Hst.out.to (by unfold YuP; simp only [SP.mul_assoc, SP.mul_left_comm, SP.mul_comm])
              generalize hBB : boxP b (yuV k.m) 99 = BB at *
              have HBB := Lib.hid hBB
              clear hBB Hst
              go_loopg [122] l.length (fun g2 v wr => ∃ (p : Nat), p ≤ l.length ∧ g2 = l.length - p ∧ v = .int .i64 p ∧ St (MarkP k M * (MapP mb j (colF col) * (RowP 36 (.slice (some ⟨g, 0, none⟩) l.length cl) (l.map refV) * BB))) F wr)
              case atStart => exact ⟨0, Nat.zero_le _, rfl, rfl, h50⟩
              case round =>
                clear h50
                obtain ⟨p, hp, hg2, rfl, hst⟩ := hrel
                have Hg2 := Lib.hid hg2
                clear hg2
                by_cases hlp : p < l.length
                · have hlp' : (p : Int) < l.length := by omega
                  have hlen : l.length ≤ 40 := by have := HM.out.len; have := hs.1; omega
                  have hw4 : IntKind.i64.wrap ((p : Int) + 1) = ((p + 1 : Nat) : Int) := by rw [IntKind.wrap_i64]; omega
                  have hp0 : 0 ≤ (p : Int) := by omega
                  obtain ⟨rp, hrp⟩ : ∃ r, l[p]? = some r := ⟨l[p], by simp [hlp]⟩
                  have Hrr := Lib.hid (HM.out.ref (List.mem_iff_getElem?.2 ⟨_, hrp⟩))
                  obtain ⟨_, eg, crx⟩ := (hst.to (SP.x3 _ _ _ _)).refAt hrp
                  cases eg
                  have Hst := Lib.hid hst
                  clear hst hrp
                  go_wp2_with fail
                  have hS := Hst.out.drew
                  have Hm := (marked_tr k M rp (by rw [HN.out]; exact Hrr.out.2)).kp (MapP mb j (colF col) * (RowP 36 (.slice (some ⟨g, 0, none⟩) l.length cl) (l.map refV) * BB)) F
                  have Hs' := (scanned_tr k M rp (by rw [HN.out]; exact Hrr.out.2)).kp (MapP mb j (colF col) * (RowP 36 (.slice (some ⟨g, 0, none⟩) l.length cl) (l.map refV) * BB)) F
                  rw [show M.md rp = decide (0 < (col rp : Int)) by rw [(Hcol.out.1 rp).1]; simp] at Hm
                  rw [show M.sc rp = false by rw [(Hcol.out.1 rp).2]; have := Hcol.out.2 rp; simp; omega] at Hs'
                  have Hlk : ∀ W', St (MarkP k M * (MapP mb j (colF col) * (RowP 36 (.slice (some ⟨g, 0, none⟩) l.length cl) (l.map refV) * BB))) F W' → _ := fun W' hW => (hW.to (SP.mul_left_comm _ _ _)).colGet rp
                  have Hlk := Lib.hid Hlk
                  rename_i Hlk0
                  clear Hlk0 crx Hst
                  refine wp_region_held (S := fun W' => St (MarkP k M * (MapP mb j (colF col) * (RowP 36 (.slice (some ⟨g, 0, none⟩) l.length cl) (l.map refV) * BB))) F W') (by kernel_rfl) ?_
                  refine wpAnyH_take (i := 0) (v := _) rfl (by kernel_rfl) (by kernel_rfl) (by kernel_rfl) (fun _ _ _ h => h) (.inl ⟨rfl, fun W' hW => by have hl := Hlk.out W' hW; go_simp; rfl⟩) hS ?_
                  refine wpAnyH_take (i := 1) (v := _) rfl (by kernel_rfl) (by kernel_rfl) (by kernel_rfl) (fun _ _ _ h => h) (.inl ⟨rfl, fun W' hW => by have hl := Hlk.out W' hW; go_simp; rfl⟩) hS ?_
                  refine wpAnyH_take (i := 3) (v := _) rfl (by kernel_rfl) (by kernel_rfl) (by kernel_rfl) (fun _ _ _ h => h) (.inl ⟨rfl, fun W' hW => by have hl := Hlk.out W' hW; go_simp; rfl⟩) hS ?_
                  refine wpAnyH_take (i := 4) (v := _) rfl (by kernel_rfl) (by kernel_rfl) (by kernel_rfl) (fun _ _ _ h => h) (.inl ⟨rfl, fun W' hW => by have hl := Hlk.out W' hW; go_simp; rfl⟩) hS ?_
                  refine wpAnyH_take (i := 5) (v := _) rfl (by kernel_rfl) (by kernel_rfl) (by kernel_rfl) (fun _ _ _ h => h) (.inl ⟨rfl, fun W' hW => by have hl := Hlk.out W' hW; go_simp; rfl⟩) hS ?_
                  refine wpAnyH_take (i := 6) (v := _) rfl (by kernel_rfl) (by kernel_rfl) (by kernel_rfl) (fun _ _ _ h => h) (.inl ⟨rfl, fun W' hW => by have hl := Hlk.out W' hW; go_simp; rfl⟩) hS ?_
                  refine wpAnyH_all (rs := [2]) (by kernel_rfl) (by simp) (fun q hq => ?_)
                  obtain rfl : q = 2 := by simpa using hq
                  clear hq
                  refine wpOp_step rfl (fun K' hK' => ?_)
                  go_simp
                  refine (Hm _ hS).mono ?_
                  clear hS
                  rintro e wS ⟨rfl, hS⟩
                  refine hK' _ _ ⟨hS, ?_⟩
                  clear hK' K'
                  refine wpAnyH_take (i := 7) (v := _) rfl (by kernel_rfl) (by kernel_rfl) (by kernel_rfl) (fun _ _ _ h => h) (.inl ⟨rfl, fun W' hW => by have hl := Hlk.out W' hW; go_simp; rfl⟩) hS ?_
                  refine wpAnyH_take (i := 8) (v := _) rfl (by kernel_rfl) (by kernel_rfl) (by kernel_rfl) (fun _ _ _ h => h) (.inl ⟨rfl, fun W' hW => by have hl := Hlk.out W' hW; go_simp; rfl⟩) hS ?_
                  go_simp
                  refine wpAnyH_take (i := 9) (v := _) rfl (by kernel_rfl) (by kernel_rfl) (by kernel_rfl) (fun _ _ _ h => h) (.inl ⟨rfl, fun W' hW => by have hl := Hlk.out W' hW; go_simp; rfl⟩) hS ?_
                  refine wpAnyH_take (i := 10) (v := _) rfl (by kernel_rfl) (by kernel_rfl) (by kernel_rfl) (fun _ _ _ h => h) (.inl ⟨rfl, fun W' hW => by have hl := Hlk.out W' hW; go_simp; rfl⟩) hS ?_
                  go_simp
                  refine wpAnyH_all (rs := [11]) (by kernel_rfl) (by simp) (fun q hq => ?_)
                  obtain rfl : q = 11 := by simpa using hq
                  clear hq
                  refine wpOp_step rfl (fun K' hK' => ?_)
                  go_simp
                  refine (Hs' _ hS).mono ?_
                  clear hS
                  rintro e wS ⟨rfl, hS⟩
                  refine hK' _ _ ⟨hS, ?_⟩
                  clear hK' K'
                  refine wpAnyH_take (i := 12) (v := _) rfl (by kernel_rfl) (by kernel_rfl) (by kernel_rfl) (fun _ _ _ h => h) (.inl ⟨rfl, fun W' hW => by have hl := Hlk.out W' hW; go_simp; rfl⟩) hS ?_
                  refine wpAnyH_done (by kernel_rfl) ?_ _
                  go_wp2_with fail
                  go_roundg (l.length - (p + 1))
                  case measure => have := Hg2.out; omega
                  case rel => exact ⟨p + 1, by omega, rfl, by go_num, hS⟩
                · obtain rfl : p = l.length := by omega
                  have h60 : St (MapP mb j (colF col) * (YuP b k M * RowP 36 (.slice (some ⟨g, 0, none⟩) l.length cl) (l.map refV))) F wr := by
                    rw [← HBB.out] at hst
                    exact hst.to (by unfold YuP; simp only [SP.mul_assoc, SP.mul_left_comm, SP.mul_comm])
                  have H60 := Lib.hid h60
                  clear hst h60
                  go_wp2_with fail
                  go_roundg (ws.length - (n + 1))
                  case measure => have := Hg.out; omega
                  case rel => exact ⟨n + 1, j, M, col, by omega, rfl, by go_num, Hcol.out, H60.out⟩
        · obtain rfl : n = ws.length := by omega
          go_wp2_with fail
          refine ((mkCount_tr k M).use (St.yuMark.1 (Hst.out.to (SP.mul_left_comm _ _ _)))).mono ?_
          rintro e w7 ⟨rfl, h70⟩
          have H70 := Lib.hid h70
          clear h70
          go_wp2_with fail
          refine (yuRemark_any _ _).mono ?_
          rintro e w8 ⟨rfl, rfl⟩
          go_wp2_with fail
          refine (yuReset_any _ _).mono ?_
          rintro e w9 ⟨rfl, rfl⟩
          go_wp2_with fail
          refine ((mkCount_tr k M).use H70.out).mono ?_
          rintro e w10 ⟨rfl, h71⟩
          generalize setCount M.md k.N = cnt at *
          go_wp2_with fail
          go_ret
          exact ⟨by simp [go_sem], h71.frame⟩
    · have hw' : (40 : Int) < ws.length := by omega
      go_wp2_with fail
      refine Hsm.out.mono ?_
      rintro e w2 ⟨rfl, h7⟩
      clear Hsm
      go_wp2_with fail
      go_ret
      exact ⟨rfl, h7.drop⟩
  · have e1 : (decide (fs.length ≤ 40) && decide (es.length ≤ 120)) = false := by
      rcases Classical.not_and_iff_not_or_not.1 hs with h | h <;> simp [h]
    rw [e1] at Hsm
    have Hsm := Lib.hid Hsm
    rename_i Hsm0
    clear Hsm0 e1
    go_wp2_with fail
    refine Hsm.out.mono ?_
    rintro e w2 ⟨rfl, h7⟩
    clear Hsm
    go_wp2_with fail
    go_ret
    exact ⟨rfl, h7.drop⟩
end Go.Proofs.Ytknmlfolbapmpaa
