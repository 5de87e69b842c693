import Derived.Test.YtknmlfolbapmpaaPick
import Derived.StillTailTactics
import Derived.Deep.DeepCutAuto
namespace Go.Proofs.Ytknmlfolbapmpaa
open Go Go.RowKit

/-- A barrier's block, its counts', how many there are, its log's room. -/
structure VyId where
  b : Nat
  cb : Nat
  m : Nat
  N : Nat
  room : Nat
structure Vy where
  cnt : Nat → Nat
  log : List Nat
  over : Bool
def cntObj (n : Nat) (c : Nat → Nat) : Obj := .cells (row n fun r => .int .u8 (c r)) 5 (0, 0)
def vyObj (i : VyId) (lv : Value) (over : Bool) : Obj := .cells #[.pointer (some ⟨i.m, 0, none⟩), .slice (some ⟨i.cb, 0, none⟩) i.N i.N, lv, .int .i64 i.room, .bool over] 112 (0, 0)
/-- What holds of a barrier's content. -/
def VyIn (i : VyId) (V : Vy) : Prop := (i.N ≤ 100000 ∧ i.room ≤ 100000 ∧ V.log.length ≤ i.room) ∧ ∀ r, V.cnt r ≤ 3
/-- A barrier. -/
def VyP (i : VyId) (V : Vy) : SP := SP.ex fun lv : Value => SP.wh (VyIn i V) (pts i.b (vyObj i lv V.over) * (pts i.cb (cntObj i.N V.cnt) * RowP 36 lv (V.log.map refV)))
theorem St.vy {i : VyId} {V : Vy} {R : SP} {F : Fr} {w : World} : St (VyP i V * R) F w ↔ ∃ lv : Value, VyIn i V ∧ St (pts i.b (vyObj i lv V.over) * (pts i.cb (cntObj i.N V.cnt) * (RowP 36 lv (V.log.map refV) * R))) F w := by
  unfold VyP
  rw [St.exm]
  constructor
  · rintro ⟨lv, h⟩
    obtain ⟨h1, h2⟩ := St.whm.1 h
    exact ⟨lv, h1, h2.to (by simp only [SP.mul_assoc])⟩
  · rintro ⟨lv, h1, h2⟩
    exact ⟨lv, St.whm.2 ⟨h1, h2.to (by simp only [SP.mul_assoc])⟩⟩
theorem St.vyB {i : VyId} {lv : Value} {o : Bool} {R : SP} {F : Fr} {w : World} (h : St (pts i.b (vyObj i lv o) * R) F w) :
    w.cell? ⟨i.b, 0, none⟩ = some (.pointer (some ⟨i.m, 0, none⟩)) ∧ w.cell? ⟨i.b, 1, none⟩ = some (.slice (some ⟨i.cb, 0, none⟩) i.N i.N) ∧ w.cell? ⟨i.b, 2, none⟩ = some lv ∧ w.cell? ⟨i.b, 3, none⟩ = some (.int .i64 i.room) ∧ w.cell? ⟨i.b, 4, none⟩ = some (.bool o) ∧ ∀ k, w.frozen? ⟨i.b, k, none⟩ = false := by
  have hb := h.at
  unfold vyObj at hb
  exact ⟨by rw [cell_of hb]; rfl, by rw [cell_of hb]; rfl, by rw [cell_of hb]; rfl, by rw [cell_of hb]; rfl, by rw [cell_of hb]; rfl, fun k => by simp [World.frozen?, hb]⟩
theorem St.vyC {i : VyId} {c : Nat → Nat} {R : SP} {F : Fr} {w : World} (h : St (pts i.cb (cntObj i.N c) * R) F w) {r : Nat} (hr : r < i.N) :
    w.cell? ⟨i.cb, r, none⟩ = some (.int .u8 (c r)) ∧ w.frozen? ⟨i.cb, r, none⟩ = false := by
  have hb := h.at
  unfold cntObj at hb
  exact ⟨by rw [cell_of hb, row_get _ hr], by simp [World.frozen?, hb]⟩
theorem St.vyCset {i : VyId} {c : Nat → Nat} {R : SP} {F : Fr} {w : World} (h : St (pts i.cb (cntObj i.N c) * R) F w) (r x : Nat) :
    St (pts i.cb (cntObj i.N (upd c r x)) * R) F (w.setCell ⟨i.cb, r, none⟩ (.int .u8 x)) := by
  unfold cntObj at *
  have h1 := h.set (off := r) (v := .int .u8 x)
  rw [row_set] at h1
  refine h1.to ?_
  congr 3
  refine row_congr fun k _ => ?_
  unfold upd
  split <;> rfl

/-- Count. -/
theorem vyCount_tr (i : VyId) (V : Vy) (r : Nat) (hr : r < i.N) : Tr0 Try.prog 53 #[.pointer (some ⟨i.b, 0, none⟩), .int .i64 r] (VyP i V) (.int .i64 (V.cnt r)) (VyP i V) := by
  intro F w h
  obtain ⟨lv, hb, h1⟩ := St.vy.1 h.mul1
  have h0 : ¬ (r : Int) < 0 := by omega
  have hn : (r : Int) < i.N := by omega
  have hn' : ¬ (i.N : Int) ≤ r := by omega
  obtain ⟨_, c1, _⟩ := h1.vyB
  obtain ⟨cc, _⟩ := (h1.to (SP.mul_left_comm _ _ _)).vyC hr
  have hcr := hb.2 r
  have hw : IntKind.i64.wrap ((V.cnt r : Nat) : Int) = V.cnt r := by rw [IntKind.wrap_i64]; omega
  clear hb h1
  go_enter Try.func53, Try.ntmps53
  go_wp2_with fail
  go_ret
  exact ⟨rfl, h⟩
theorem vyOver_tr (i : VyId) (V : Vy) : Tr0 Try.prog 54 #[.pointer (some ⟨i.b, 0, none⟩)] (VyP i V) (.bool V.over) (VyP i V) := by
  intro F w h
  obtain ⟨lv, hb, h1⟩ := St.vy.1 h.mul1
  obtain ⟨_, _, _, _, c4, _⟩ := h1.vyB
  clear hb h1
  go_enter Try.func54, Try.ntmps54
  go_wp2_with fail
  go_ret
  exact ⟨rfl, h⟩
theorem vyPre_any (b x y : Value) (w : World) : Calls Try.prog 69 #[b, x, y] w fun e w' => e = .returned (.tuple #[]) ∧ w' = w := by
  go_enter Try.func69, Try.ntmps69
  go_wp2
  go_end0
  exact ⟨rfl, rfl⟩
theorem vyRescans_any (b : Value) (w : World) : Calls Try.prog 89 #[b] w fun e w' => e = .returned (.bool true) ∧ w' = w := by
  go_enter Try.func89, Try.ntmps89
  go_wp2
  go_ret
  exact ⟨rfl, rfl⟩

/-- What was written counts more. -/
def Vy.up (room : Nat) (V : Vy) (z : Nat) : Vy := { cnt := upd V.cnt z (min (V.cnt z + 1) 3), log := if V.log.length < room then V.log ++ [z] else V.log, over := if V.log.length < room then V.over else true }
/-- What was taken away counts less. -/
def Vy.dn (V : Vy) (y : Nat) : Vy := if y ≠ 0 ∧ 0 < V.cnt y ∧ V.cnt y < 3 then { V with cnt := upd V.cnt y (V.cnt y - 1) } else V
def Vy.post (room : Nat) (V : Vy) (y z : Nat) (bk : Bool) : Vy := if bk then (if z = 0 then V else V.up room z).dn y else V
set_option maxRecDepth 100000 in
/-- Post, of what isn't black: nothing. -/
theorem vyPost_white (i : VyId) (V : Vy) (x y z : Int) (er : Bool) : Tr0 Try.prog 51 #[.pointer (some ⟨i.b, 0, none⟩), .agg #[.int .i64 x, .int .i64 y, .int .i64 z, .bool false, .bool er]] (VyP i V) (.tuple #[]) (VyP i V) := by
  intro F w h
  have h1 := h.grown0 (World.grownBy_alloc w (.cells #[.int .i64 x, .int .i64 y, .int .i64 z, .bool false, .bool er] 45) none)
  have H1 := Lib.hid h1
  clear h h1
  go_enter Try.func51, Try.ntmps51
  go_wp2_with fail
  exact bodyPost_ret (v := .tuple #[]) (results_none rfl _ _ _) rfl ⟨rfl, H1.out⟩
set_option maxRecDepth 100000 in
set_option maxHeartbeats 4000000 in
/-- Post. -/
theorem vyPost_black (i : VyId) (V : Vy) (x : Int) (y z : Nat) (er : Bool) (hy : y < i.N) (hz : z < i.N) : Tr0 Try.prog 51 #[.pointer (some ⟨i.b, 0, none⟩), .agg #[.int .i64 x, .int .i64 y, .int .i64 z, .bool true, .bool er]] (VyP i V) (.tuple #[]) (VyP i (V.post i.room y z true)) := by
  have epost : V.post i.room y z true = (if z = 0 then V else V.up i.room z).dn y := rfl
  rw [epost]
  clear epost
  obtain ⟨V1, hV1⟩ : ∃ V1, (if z = 0 then V else V.up i.room z) = V1 := ⟨_, rfl⟩
  rw [hV1]
  have HV1 := Lib.hid hV1
  clear hV1
  intro F w h
  obtain ⟨lv, hb, h1⟩ := St.vy.1 h.mul1
  have h2 := h1.alloc (.cells #[.int .i64 x, .int .i64 y, .int .i64 z, .bool true, .bool er] 45)
  have h3 : St (pts i.b (vyObj i lv V.over) * (pts i.cb (cntObj i.N V.cnt) * (RowP 36 lv (V.log.map refV) * (pts w.heap.size (.cells #[.int .i64 x, .int .i64 y, .int .i64 z, .bool true, .bool er] 45 (0, 0)) * 1)))) F (w.alloc (.cells #[.int .i64 x, .int .i64 y, .int .i64 z, .bool true, .bool er] 45)) := h2.to (SP.x4 _ _ _ _ _).symm
  obtain ⟨d0, d1, d2, d3, d4, d5⟩ := h3.vyB
  have hp := h2.at
  have e1 : (w.alloc (.cells #[.int .i64 x, .int .i64 y, .int .i64 z, .bool true, .bool er] 45)).cell? ⟨w.heap.size, 1, none⟩ = some (.int .i64 y) := by rw [cell_of hp]; rfl
  have e2 : (w.alloc (.cells #[.int .i64 x, .int .i64 y, .int .i64 z, .bool true, .bool er] 45)).cell? ⟨w.heap.size, 2, none⟩ = some (.int .i64 z) := by rw [cell_of hp]; rfl
  have e3 : (w.alloc (.cells #[.int .i64 x, .int .i64 y, .int .i64 z, .bool true, .bool er] 45)).cell? ⟨w.heap.size, 3, none⟩ = some (.bool true) := by rw [cell_of hp]; rfl
  have H3 := Lib.hid h3
  have Hb := Lib.hid hb
  clear h h1 h2 h3 hb hp
  go_enter Try.func51, Try.ntmps51
  go_upto_region 2 with fail
  generalize w.alloc (.cells #[.int .i64 x, .int .i64 y, .int .i64 z, .bool true, .bool er] 45) = w1 at *
  generalize w.heap.size = wb at *
  go_upto_if 10 with fail
  clear d0 d1 d2 d3 d4 d5 e1 e3
  go_cut [] (fun wx => ∃ lv : Value, VyIn i V1 ∧ St (pts i.b (vyObj i lv V1.over) * (pts i.cb (cntObj i.N V1.cnt) * (RowP 36 lv (V1.log.map refV) * (pts wb (.cells #[.int .i64 x, .int .i64 y, .int .i64 z, .bool true, .bool er] 45 (0, 0)) * 1)))) F wx)
  case first =>
    by_cases hz0 : z = 0
    · have hzb : ((z : Int) != 0) = false := by simp [hz0]
      have Hz0 := Lib.hid hz0
      clear hz0 e2
      go_wp2_with fail
      go_meet
      case rel =>
        have e := HV1.out
        rw [if_pos Hz0.out] at e
        rw [← e]
        exact ⟨lv, Hb.out, H3.out⟩
    · have hzb : ((z : Int) != 0) = true := by simp; omega
      have hcz := Hb.out.2 z
      have Hz0 := Lib.hid hz0
      clear hz0
      have hzi : (z : Int) < i.N := by omega
      have hzi0 : 0 ≤ (z : Int) := by omega
      go_upto_region 3 with fail
      go_cut [] (fun wx => St (pts i.b (vyObj i lv V.over) * (pts i.cb (cntObj i.N (upd V.cnt z (min (V.cnt z + 1) 3))) * (RowP 36 lv (V.log.map refV) * (pts wb (.cells #[.int .i64 x, .int .i64 y, .int .i64 z, .bool true, .bool er] 45 (0, 0)) * 1)))) F wx)
      case first =>
        obtain ⟨d0, d1, d2, d3, d4, d5⟩ := H3.out.vyB
        obtain ⟨cz, fz⟩ := (H3.out.to (SP.mul_left_comm _ _ _)).vyC hz
        have h4 := ((H3.out.to (SP.mul_left_comm _ _ _)).vyCset z (min (V.cnt z + 1) 3)).to (SP.mul_left_comm _ _ _)
        rcases (by omega : V.cnt z = 0 ∨ V.cnt z = 1 ∨ V.cnt z = 2 ∨ V.cnt z = 3) with hc | hc | hc | hc
        all_goals
          rw [hc] at cz
          have H4 := Lib.hid h4
          have Hc := Lib.hid hc
          clear h4 hc hcz
          go_still_tail 17, (by kernel_rfl)
          go_wp2_with fail
          go_meet
          case rel => exact (by have h5 := H4.out; rw [Hc.out] at h5; exact (by rw [Hc.out]; exact h5.drew))
      case rest =>
        have hlv := (hcut.to (SP.x3 _ _ _ _)).rowSlice
        obtain ⟨o, cap, hv⟩ := hlv
        rw [List.length_map] at hv
        subst hv
        obtain ⟨d0, d1, d2, d3, d4, d5⟩ := hcut.vyB
        have e2' : wc.cell? ⟨wb, 2, none⟩ = some (.int .i64 z) := by rw [cell_of (hcut.to (SP.x4 _ _ _ _ _)).at]; rfl
        have f2 := d5 2
        have f4 := d5 4
        have Hcut := Lib.hid hcut
        clear hcut d5 d0 d1 e2 H3
        by_cases hroom : V.log.length < i.room
        · have hroom' : (V.log.length : Int) < i.room := by omega
          have hdec : decide (V.log.length < i.room) = true := by simp [hroom]
          have Hroom := Lib.hid hroom
          clear hroom
          go_wp2_with fail
          go_quiet (fail)
          have h5 := Hcut.out.drewN nq
          have H5 := Lib.hid h5
          have d2' : (wc.drewN nq).cell? ⟨i.b, 2, none⟩ = some (.slice o V.log.length cap) := (h5.vyB).2.2.1
          have e2'' : (wc.drewN nq).cell? ⟨wb, 2, none⟩ = some (.int .i64 z) := by rw [cell_of (h5.to (SP.x4 _ _ _ _ _)).at]; rfl
          clear h5 d2 e2' f2 f4 d3 d4 Hcut
          generalize wc.drewN nq = wd at *
          have Hlog := Lib.hid Hb.out.1
          have hrow := ((H5.out.to (SP.x3 _ _ _ _)).drew.grown0 (World.grownBy_alloc wd.drew (.cells #[.int .i64 z] 36) none))
          obtain ⟨i0, hi, hz0, hz1, hz2⟩ := info_parts info_ref
          obtain ⟨v', w3, hap, h6⟩ := run_append_st (P := Try.prog) (wd.drew.alloc (.cells #[.int .i64 z] 36)) 29 29 36 i0 (.int .i64 0) 8 Try.underlying29 hi hz0 hz1 hz2 rfl (.slice o V.log.length cap) (V.log.map refV) hrow ⟨wd.heap.size, 0, none⟩ 1 [.int .i64 z] (fun j x h => box_cell wd.drew _ _ j x h) (one_one rfl) (by have := Hlog.out; simp only [maxLen, List.length_cons, List.length_nil, List.length_map]; omega) (by have := Hlog.out; simp only [List.length_cons, List.length_nil, List.length_map]; omega)
          obtain ⟨o', cap', hv'⟩ := h6.rowSlice
          have hl' : (V.log.map refV ++ [Value.int .i64 z]).length = V.log.length + 1 := by simp
          rw [hl'] at hv'
          clear hl'
          subst hv'
          have h7 := h6.to (SP.x3 _ _ _ _).symm
          have f2 := h7.vyB.2.2.2.2.2 2
          have c2 := h7.vyB.2.2.1
          have h8 := h7.set (off := 2) (v := .slice o' (V.log.length + 1) cap')
          have H8 := Lib.hid h8
          have HREL : Hid (∃ lv : Value, VyIn i V1 ∧ St (pts i.b (vyObj i lv V1.over) * (pts i.cb (cntObj i.N V1.cnt) * (RowP 36 lv (V1.log.map refV) * (pts wb (.cells #[.int .i64 x, .int .i64 y, .int .i64 z, .bool true, .bool er] 45 (0, 0)) * 1)))) F (w3.setCell ⟨i.b, 2, none⟩ (.slice o' (V.log.length + 1) cap'))) := by
            have e := HV1.out
            rw [if_neg Hz0.out] at e
            rw [← e]
            clear e
            refine ⟨.slice o' (V.log.length + 1) cap', ⟨⟨Hb.out.1.1, Hb.out.1.2.1, ?_⟩, ?_⟩, ?_⟩
            · unfold Vy.up
              dsimp only
              rw [if_pos Hroom.out, List.length_append]
              exact Hroom.out
            · intro r
              unfold Vy.up upd
              dsimp only
              split
              · omega
              · exact Hb.out.2 r
            · unfold Vy.up
              dsimp only
              rw [if_pos Hroom.out, if_pos Hroom.out, List.map_append]
              exact h8
          have Hap := Lib.hid hap
          have c2a : (wd.drew.alloc (.cells #[.int .i64 z] 36)).cell? ⟨i.b, 2, none⟩ = some (.slice o V.log.length cap) := (hrow.to (SP.x3 _ _ _ _).symm).vyB.2.2.1
          have c2b : (wd.alloc (.cells #[.int .i64 z] 36)).cell? ⟨i.b, 2, none⟩ = some (.slice o V.log.length cap) := c2a
          clear h6 h7 h8 H5 hz0 hz1 hz2 hi hap hrow
          go_wp2_with fail
          have hS : True := trivial
          refine wp_region_held (S := fun _ => True) (by kernel_rfl) ?_
          refine wpAnyH_take (i := 0) (v := _) rfl (by kernel_rfl) (by kernel_rfl) (by kernel_rfl) (fun _ _ _ h => h) (.inl ⟨rfl, fun W' hW => by skip; go_simp; rfl⟩) hS ?_
          refine wpAnyH_take (i := 1) (v := _) rfl (by kernel_rfl) (by kernel_rfl) (by kernel_rfl) (fun _ _ _ h => h) (.inl ⟨rfl, fun W' hW => by skip; go_simp; rfl⟩) hS ?_
          refine wpAnyH_take (i := 2) (v := _) rfl (by kernel_rfl) (by kernel_rfl) (by kernel_rfl) (fun _ _ _ h => h) (.inl ⟨rfl, fun W' hW => by skip; go_simp; rfl⟩) hS ?_
          refine wpAnyH_take (i := 3) (v := _) rfl (by kernel_rfl) (by kernel_rfl) (by kernel_rfl) (fun _ _ _ h => h) (.inl ⟨rfl, fun W' hW => by skip; go_simp; rfl⟩) hS ?_
          refine wpAnyH_take (i := 5) (v := _) rfl (by kernel_rfl) (by kernel_rfl) (by kernel_rfl) (fun _ _ _ h => h) (.inl ⟨rfl, fun W' hW => by skip; go_simp; rfl⟩) hS ?_
          go_simp
          have hap := Hap.out
          clear Hap
          refine wpAnyH_all (rs := [4, 6]) (by kernel_rfl) (by simp) (fun q hq => ?_)
          rcases (by simpa using hq : q = 4 ∨ q = 6) with rfl | rfl
          · refine wpOp_step rfl (fun K' hK' => ?_)
            go_simp
            refine hK' _ _ ⟨trivial, ?_⟩
            clear hK' K'
            refine wpAnyH_all (rs := [6]) (by kernel_rfl) (by simp) (fun q hq => ?_)
            obtain rfl : q = 6 := by simpa using hq
            clear hq
            refine wpOp_step rfl (fun K' hK' => ?_)
            go_simp
            refine hK' _ _ ⟨trivial, ?_⟩
            clear hK' K'
            refine wpAnyH_all (rs := [7]) (by kernel_rfl) (by simp) (fun q hq => ?_)
            obtain rfl : q = 7 := by simpa using hq
            clear hq
            refine wpOp_step rfl (fun K' hK' => ?_)
            go_simp
            refine hK' _ _ ⟨trivial, ?_⟩
            clear hK' K'
            refine wpAnyH_all (rs := [8]) (by kernel_rfl) (by simp) (fun q hq => ?_)
            obtain rfl : q = 8 := by simpa using hq
            clear hq
            refine wpOp_step rfl (fun K' hK' => ?_)
            refine step_append rfl _ _ _ rfl rfl rfl hap ?_
            refine hK' _ _ ⟨trivial, ?_⟩
            clear hK' K'
            go_simp
            refine wpAnyH_take (i := 9) (v := _) rfl (by kernel_rfl) (by kernel_rfl) (by kernel_rfl) (fun _ _ _ h => h) (.inl ⟨rfl, fun W' hW => by skip; go_simp; rfl⟩) hS ?_
            refine wpAnyH_take (i := 10) (v := _) rfl (by kernel_rfl) (by kernel_rfl) (by kernel_rfl) (fun _ _ _ h => h) (.inl ⟨rfl, fun W' hW => by skip; go_simp; rfl⟩) hS ?_
            refine wpAnyH_all (rs := [11]) (by kernel_rfl) (by simp) (fun q hq => ?_)
            obtain rfl : q = 11 := by simpa using hq
            clear hq
            refine wpOp_step rfl (fun K' hK' => ?_)
            go_simp
            refine hK' _ _ ⟨trivial, ?_⟩
            clear hK' K'
            refine wpAnyH_done (by kernel_rfl) ?_ _
            go_wp2_with fail
            go_meet
            exact HREL.out
          · refine wpOp_step rfl (fun K' hK' => ?_)
            go_simp
            refine hK' _ _ ⟨trivial, ?_⟩
            clear hK' K'
            refine wpAnyH_all (rs := [4, 7]) (by kernel_rfl) (by simp) (fun q hq => ?_)
            rcases (by simpa using hq : q = 4 ∨ q = 7) with rfl | rfl
            · refine wpOp_step rfl (fun K' hK' => ?_)
              go_simp
              refine hK' _ _ ⟨trivial, ?_⟩
              clear hK' K'
              refine wpAnyH_all (rs := [7]) (by kernel_rfl) (by simp) (fun q hq => ?_)
              obtain rfl : q = 7 := by simpa using hq
              clear hq
              refine wpOp_step rfl (fun K' hK' => ?_)
              go_simp
              refine hK' _ _ ⟨trivial, ?_⟩
              clear hK' K'
              refine wpAnyH_all (rs := [8]) (by kernel_rfl) (by simp) (fun q hq => ?_)
              obtain rfl : q = 8 := by simpa using hq
              clear hq
              refine wpOp_step rfl (fun K' hK' => ?_)
              refine step_append rfl _ _ _ rfl rfl rfl hap ?_
              refine hK' _ _ ⟨trivial, ?_⟩
              clear hK' K'
              go_simp
              refine wpAnyH_take (i := 9) (v := _) rfl (by kernel_rfl) (by kernel_rfl) (by kernel_rfl) (fun _ _ _ h => h) (.inl ⟨rfl, fun W' hW => by skip; go_simp; rfl⟩) hS ?_
              refine wpAnyH_take (i := 10) (v := _) rfl (by kernel_rfl) (by kernel_rfl) (by kernel_rfl) (fun _ _ _ h => h) (.inl ⟨rfl, fun W' hW => by skip; go_simp; rfl⟩) hS ?_
              refine wpAnyH_all (rs := [11]) (by kernel_rfl) (by simp) (fun q hq => ?_)
              obtain rfl : q = 11 := by simpa using hq
              clear hq
              refine wpOp_step rfl (fun K' hK' => ?_)
              go_simp
              refine hK' _ _ ⟨trivial, ?_⟩
              clear hK' K'
              refine wpAnyH_done (by kernel_rfl) ?_ _
              go_wp2_with fail
              go_meet
              exact HREL.out
            · refine wpOp_step rfl (fun K' hK' => ?_)
              go_simp
              refine hK' _ _ ⟨trivial, ?_⟩
              clear hK' K'
              refine wpAnyH_all (rs := [4]) (by kernel_rfl) (by simp) (fun q hq => ?_)
              obtain rfl : q = 4 := by simpa using hq
              clear hq
              refine wpOp_step rfl (fun K' hK' => ?_)
              go_simp
              refine hK' _ _ ⟨trivial, ?_⟩
              clear hK' K'
              refine wpAnyH_all (rs := [8]) (by kernel_rfl) (by simp) (fun q hq => ?_)
              obtain rfl : q = 8 := by simpa using hq
              clear hq
              refine wpOp_step rfl (fun K' hK' => ?_)
              refine step_append rfl _ _ _ rfl rfl rfl hap ?_
              refine hK' _ _ ⟨trivial, ?_⟩
              clear hK' K'
              go_simp
              refine wpAnyH_take (i := 9) (v := _) rfl (by kernel_rfl) (by kernel_rfl) (by kernel_rfl) (fun _ _ _ h => h) (.inl ⟨rfl, fun W' hW => by skip; go_simp; rfl⟩) hS ?_
              refine wpAnyH_take (i := 10) (v := _) rfl (by kernel_rfl) (by kernel_rfl) (by kernel_rfl) (fun _ _ _ h => h) (.inl ⟨rfl, fun W' hW => by skip; go_simp; rfl⟩) hS ?_
              refine wpAnyH_all (rs := [11]) (by kernel_rfl) (by simp) (fun q hq => ?_)
              obtain rfl : q = 11 := by simpa using hq
              clear hq
              refine wpOp_step rfl (fun K' hK' => ?_)
              go_simp
              refine hK' _ _ ⟨trivial, ?_⟩
              clear hK' K'
              refine wpAnyH_done (by kernel_rfl) ?_ _
              go_wp2_with fail
              go_meet
              exact HREL.out
        · have hroom' : ¬ (V.log.length : Int) < i.room := by omega
          have hdec : decide (V.log.length < i.room) = false := by simp [hroom]
          have Hroom := Lib.hid hroom
          clear hroom
          have h6 := (Hcut.out.set (off := 4) (v := .bool true))
          have H6 := Lib.hid h6
          clear h6
          go_wp2_with fail
          go_quiet (fail)
          go_wp2_with fail
          go_meet
          case rel =>
            have e := HV1.out
            rw [if_neg Hz0.out] at e
            rw [← e]
            clear e
            refine ⟨.slice o V.log.length cap, ⟨⟨Hb.out.1.1, Hb.out.1.2.1, ?_⟩, ?_⟩, ?_⟩
            · unfold Vy.up
              dsimp only
              rw [if_neg Hroom.out]
              exact Hb.out.1.2.2
            · intro r
              unfold Vy.up upd
              dsimp only
              split
              · omega
              · exact Hb.out.2 r
            · unfold Vy.up
              dsimp only
              rw [if_neg Hroom.out, if_neg Hroom.out]
              exact H6.out.drewN _
  case rest =>
    obtain ⟨lv, hb, hcut⟩ := hcut
    have hp := (hcut.to (SP.x4 _ _ _ _ _)).at
    have e1 : wc.cell? ⟨wb, 1, none⟩ = some (.int .i64 y) := by rw [cell_of hp]; rfl
    obtain ⟨d0, d1, d2, d3, d4, d5⟩ := hcut.vyB
    obtain ⟨cy, fy⟩ := (hcut.to (SP.mul_left_comm _ _ _)).vyC hy
    have hyi : (y : Int) < i.N := by omega
    have hyi0 : 0 ≤ (y : Int) := by omega
    have hcy := hb.2 y
    have Hb1 := Lib.hid hb
    have Hcut := Lib.hid hcut
    clear hb hcut hp d0 d2 d3 d4 d5 H3 e2
    go_wp2_with fail
    go_quiet (fail)
    have H5 := Lib.hid (Hcut.out.drewN nq)
    clear Hcut d1 e1 cy fy
    generalize wc.drewN nq = wd at *
    have hp := (H5.out.to (SP.x4 _ _ _ _ _)).at
    have e1 : wd.cell? ⟨wb, 1, none⟩ = some (.int .i64 y) := by rw [cell_of hp]; rfl
    have d1 := H5.out.vyB.2.1
    obtain ⟨cy, fy⟩ := (H5.out.to (SP.mul_left_comm _ _ _)).vyC hy
    clear hp
    have hsame : ∀ W, V1.dn y = V1 → St (pts i.b (vyObj i lv V1.over) * (pts i.cb (cntObj i.N V1.cnt) * (RowP 36 lv (V1.log.map refV) * (pts wb (.cells #[.int .i64 x, .int .i64 y, .int .i64 z, .bool true, .bool er] 45 (0, 0)) * 1)))) F W → St (VyP i (V1.dn y)) F W := by
      intro W he hW
      rw [he]
      exact (St.vy.2 ⟨lv, Hb1.out, hW⟩).drop
    have Hsame := Lib.hid hsame
    clear hsame
    by_cases hy0 : y = 0
    · have hyb : ((y : Int) != 0) = false := by simp [hy0]
      have Hd : Hid (V1.dn y = V1) := Lib.hid (by unfold Vy.dn; rw [if_neg (fun e => e.1 hy0)])
      clear hy0
      go_wp2_with fail
      go_end0
      exact ⟨rfl, Hsame.out _ Hd.out H5.out⟩
    · have hyb : ((y : Int) != 0) = true := by simp; omega
      have Hy0 := Lib.hid hy0
      clear hy0
      rcases (by omega : V1.cnt y = 0 ∨ V1.cnt y = 1 ∨ V1.cnt y = 2 ∨ V1.cnt y = 3) with hc | hc | hc | hc
      · have Hd : Hid (V1.dn y = V1) := Lib.hid (by unfold Vy.dn; rw [if_neg (by omega)])
        rw [hc] at cy ⊢
        clear hc hcy
        go_wp2_with fail
        go_end0
        exact ⟨rfl, Hsame.out _ Hd.out H5.out⟩
      · have Hd : Hid (V1.dn y = { V1 with cnt := upd V1.cnt y 0 }) := Lib.hid (by unfold Vy.dn; rw [if_pos ⟨Hy0.out, by omega, by omega⟩, hc])
        have h6 := ((H5.out.to (SP.mul_left_comm _ _ _)).vyCset y 0).to (SP.mul_left_comm _ _ _)
        have h7 : St (VyP i (V1.dn y)) F (wd.setCell ⟨i.cb, y, none⟩ (.int .u8 ((0 : Nat) : Int))).drew := by
          rw [Hd.out]
          refine St.drew (St.drop ((St.vy (V := { V1 with cnt := upd V1.cnt y 0 })).2 ⟨lv, ⟨Hb1.out.1, fun r => ?_⟩, h6⟩))
          dsimp only [upd]
          split
          · omega
          · exact Hb1.out.2 r
        have H7 := Lib.hid h7
        rw [hc] at cy ⊢
        clear h6 h7 hc hcy
        go_wp2_with fail
        go_still_tail 10, (by kernel_rfl)
        go_wp2_with fail
        go_end0
        exact ⟨rfl, H7.out⟩
      · have Hd : Hid (V1.dn y = { V1 with cnt := upd V1.cnt y 1 }) := Lib.hid (by unfold Vy.dn; rw [if_pos ⟨Hy0.out, by omega, by omega⟩, hc])
        have h6 := ((H5.out.to (SP.mul_left_comm _ _ _)).vyCset y 1).to (SP.mul_left_comm _ _ _)
        have h7 : St (VyP i (V1.dn y)) F (wd.setCell ⟨i.cb, y, none⟩ (.int .u8 ((1 : Nat) : Int))).drew := by
          rw [Hd.out]
          refine St.drew (St.drop ((St.vy (V := { V1 with cnt := upd V1.cnt y 1 })).2 ⟨lv, ⟨Hb1.out.1, fun r => ?_⟩, h6⟩))
          dsimp only [upd]
          split
          · omega
          · exact Hb1.out.2 r
        have H7 := Lib.hid h7
        rw [hc] at cy ⊢
        clear h6 h7 hc hcy
        go_wp2_with fail
        go_still_tail 10, (by kernel_rfl)
        go_wp2_with fail
        go_end0
        exact ⟨rfl, H7.out⟩
      · have Hd : Hid (V1.dn y = V1) := Lib.hid (by unfold Vy.dn; rw [if_neg (by omega)])
        rw [hc] at cy ⊢
        clear hc hcy
        go_wp2_with fail
        go_end0
        exact ⟨rfl, Hsame.out _ Hd.out H5.out⟩
end Go.Proofs.Ytknmlfolbapmpaa
