import Derived.Test.YtknmlfolbapmpaaPick
import Derived.Laws.Rows
import Derived.Deep.DeepCutAuto
namespace Go.Proofs.Ytknmlfolbapmpaa
open Go Go.RowKit

/-- What is handed back. -/
def WrQ (ol : Option Addr) (l : List Nat) (cl : Nat) (F : Fr) (e : Ending) (w' : World) : Prop := ∃ (x y z : Nat) (bk : Bool), e = .returned (.agg #[.int .i64 x, .int .i64 y, .int .i64 z, .bool bk, .bool false]) ∧ (x ∈ l ∧ (y = 0 ∨ y ∈ l) ∧ (z = 0 ∨ z ∈ l)) ∧ St (RowP 36 (.slice ol l.length cl) (l.map refV)) F w'
set_option maxRecDepth 100000 in
set_option maxHeartbeats 4000000 in
/-- write: of raw numbers. -/
theorem write_c (ol : Option Addr) (l : List Nat) (cl : Nat) (hl : l.length ≠ 0) (hl40 : l.length ≤ 40) (e : Nat × Nat × Nat × Nat) (he : e.1 < 256 ∧ e.2.1 < 256 ∧ e.2.2.1 < 256 ∧ e.2.2.2 < 256) (F : Fr) (w : World) (h : St (RowP 36 (.slice ol l.length cl) (l.map refV)) F w) :
    Calls Try.prog 50 #[.slice ol l.length cl, .agg #[.int .u8 (e.1 : Int), .int .u8 (e.2.1 : Int), .int .u8 (e.2.2.1 : Int), .int .u8 (e.2.2.2 : Int)]] w (WrQ ol l cl F) := by
  obtain ⟨e0, e1, e2, e3⟩ := e
  dsimp only at he ⊢
  have hb0 := (h.mul1.alloc (.cells #[.int .u8 (e0 : Int), .int .u8 (e1 : Int), .int .u8 (e2 : Int), .int .u8 (e3 : Int)] 50)).alloc (.cells #[.int .i64 0, .int .i64 0, .int .i64 0, .bool false, .bool false] 45)
  rw [World.size_alloc] at hb0
  have Hb0 := Lib.hid hb0
  clear hb0 h
  go_enter Try.func50, Try.ntmps50
  go_wp2_with fail
  generalize (w.alloc (.cells #[.int .u8 (e0 : Int), .int .u8 (e1 : Int), .int .u8 (e2 : Int), .int .u8 (e3 : Int)] 50)).alloc (.cells #[.int .i64 0, .int .i64 0, .int .i64 0, .bool false, .bool false] 45) = w1 at *
  generalize hrb : w.heap.size + 1 = rb at *
  generalize w.heap.size = wb at *
  clear hrb
  have h1 := Hb0.out.drew
  obtain ⟨rx, g, hmx, hrx, e1', crx, ht1, hi1⟩ := (h1.to (SP.x3 _ _ _ _)).pick hl e0
  obtain ⟨ry, g', hmy, hry, e2', cry, ht2, hi2⟩ := (h1.to (SP.x3 _ _ _ _)).pick hl e1
  subst e1'
  cases e2'
  obtain ⟨rz, g', hmz, hrz, e2', crz, ht3, hi3⟩ := (h1.to (SP.x3 _ _ _ _)).pick hl e2
  cases e2'
  have hp := (h1.to (SP.mul_left_comm _ _ _)).at
  have hS : w1.drew.cell? ⟨wb, 0, none⟩ = some (.int .u8 (e0 : Int)) ∧ w1.drew.cell? ⟨wb, 3, none⟩ = some (.int .u8 (e3 : Int)) ∧ w1.drew.cell? ⟨g, e0 % l.length, none⟩ = some (.int .i64 rx) := ⟨by rw [cell_of hp]; rfl, by rw [cell_of hp]; rfl, crx⟩
  have Hm := Lib.hid (And.intro hmx (And.intro hmy hmz))
  have Hr := Lib.hid (And.intro hrx (And.intro hry hrz))
  clear hrx hry hrz
  have hll : (0 : Int) < l.length := by omega
  have hj1 : 0 ≤ (e0 : Int) % l.length := Int.emod_nonneg _ (by omega)
  have hj2 : (e0 : Int) % l.length < l.length := Int.emod_lt_of_pos _ hll
  have hj3 : ((e0 : Int) % l.length).toNat = e0 % l.length := by omega
  have hw0 : IntKind.i64.wrap (e0 : Int) = e0 := by rw [IntKind.wrap_i64]; omega
  have hw1 : IntKind.i64.wrap (e1 : Int) = e1 := by rw [IntKind.wrap_i64]; omega
  have hw2 : IntKind.i64.wrap (e2 : Int) = e2 := by rw [IntKind.wrap_i64]; omega
  clear h1 hp crx cry crz hmx hmy hmz
  refine wp_region_held (S := fun W' => W'.cell? ⟨wb, 0, none⟩ = some (.int .u8 (e0 : Int)) ∧ W'.cell? ⟨wb, 3, none⟩ = some (.int .u8 (e3 : Int)) ∧ W'.cell? ⟨g, e0 % l.length, none⟩ = some (.int .i64 rx)) (by kernel_rfl) ?_
  refine wpAnyH_take (i := 0) (v := _) rfl (by kernel_rfl) (by kernel_rfl) (by kernel_rfl) (fun _ _ _ h => h) (.inl ⟨rfl, fun W' hW => by obtain ⟨q1, q2, q3⟩ := hW; go_simp; rfl⟩) hS ?_
  refine wpAnyH_take (i := 1) (v := _) rfl (by kernel_rfl) (by kernel_rfl) (by kernel_rfl) (fun _ _ _ h => h) (.inl ⟨rfl, fun W' hW => by obtain ⟨q1, q2, q3⟩ := hW; go_simp; rfl⟩) hS ?_
  refine wpAnyH_take (i := 2) (v := _) rfl (by kernel_rfl) (by kernel_rfl) (by kernel_rfl) (fun _ _ _ h => h) (.inl ⟨rfl, fun W' hW => by obtain ⟨q1, q2, q3⟩ := hW; go_simp; rfl⟩) hS ?_
  refine wpAnyH_take (i := 3) (v := _) rfl (by kernel_rfl) (by kernel_rfl) (by kernel_rfl) (fun _ _ _ h => h) (.inl ⟨rfl, fun W' hW => by obtain ⟨q1, q2, q3⟩ := hW; go_simp; rfl⟩) hS ?_
  refine wpAnyH_take (i := 4) (v := _) rfl (by kernel_rfl) (by kernel_rfl) (by kernel_rfl) (fun _ _ _ h => h) (.inl ⟨rfl, fun W' hW => by obtain ⟨q1, q2, q3⟩ := hW; go_simp; rfl⟩) hS ?_
  refine wpAnyH_take (i := 5) (v := _) rfl (by kernel_rfl) (by kernel_rfl) (by kernel_rfl) (fun _ _ _ h => h) (.inl ⟨rfl, fun W' hW => by obtain ⟨q1, q2, q3⟩ := hW; go_simp; rfl⟩) hS ?_
  go_simp
  refine wpAnyH_take (i := 6) (v := _) rfl (by kernel_rfl) (by kernel_rfl) (by kernel_rfl) (fun _ _ _ h => h) (.inl ⟨rfl, fun W' hW => by obtain ⟨q1, q2, q3⟩ := hW; go_simp; rfl⟩) hS ?_
  refine wpAnyH_take (i := 7) (v := _) rfl (by kernel_rfl) (by kernel_rfl) (by kernel_rfl) (fun _ _ _ h => h) (.inl ⟨rfl, fun W' hW => by obtain ⟨q1, q2, q3⟩ := hW; go_simp; rfl⟩) hS ?_
  refine wpAnyH_take (i := 8) (v := _) rfl (by kernel_rfl) (by kernel_rfl) (by kernel_rfl) (fun _ _ _ h => h) (.inl ⟨rfl, fun W' hW => by obtain ⟨q1, q2, q3⟩ := hW; go_simp; rfl⟩) hS ?_
  go_simp
  refine wpAnyH_take (i := 9) (v := _) rfl (by kernel_rfl) (by kernel_rfl) (by kernel_rfl) (fun _ _ _ h => h) (.inl ⟨rfl, fun W' hW => by obtain ⟨q1, q2, q3⟩ := hW; go_simp; rfl⟩) hS ?_
  refine wpAnyH_take (i := 10) (v := _) rfl (by kernel_rfl) (by kernel_rfl) (by kernel_rfl) (fun _ _ _ h => h) (.inl ⟨rfl, fun W' hW => by obtain ⟨q1, q2, q3⟩ := hW; go_simp; rfl⟩) hS ?_
  refine wpAnyH_take (i := 11) (v := _) rfl (by kernel_rfl) (by kernel_rfl) (by kernel_rfl) (fun _ _ _ h => h) (.inl ⟨rfl, fun W' hW => by obtain ⟨q1, q2, q3⟩ := hW; go_simp; rfl⟩) hS ?_
  refine wpAnyH_take (i := 12) (v := _) rfl (by kernel_rfl) (by kernel_rfl) (by kernel_rfl) (fun _ _ _ h => h) (.inl ⟨rfl, fun W' hW => by obtain ⟨q1, q2, q3⟩ := hW; go_simp; rfl⟩) hS ?_
  refine wpAnyH_take (i := 13) (v := _) rfl (by kernel_rfl) (by kernel_rfl) (by kernel_rfl) (fun _ _ _ h => h) (.inl ⟨rfl, fun W' hW => by obtain ⟨q1, q2, q3⟩ := hW; go_simp; rfl⟩) hS ?_
  refine wpAnyH_all (rs := [14]) (by kernel_rfl) (by simp) (fun q hq => ?_)
  obtain rfl : q = 14 := by simpa using hq
  clear hq
  refine wpOp_step rfl (fun K' hK' => ?_)
  go_simp
  generalize decide (0 < bits BinOp.and IntKind.u8 (e3 : Int) 3) = bk at *
  have h2 := (Hb0.out.alloc (.cells #[.int .i64 0, .int .i64 0, .int .i64 0, .bool false, .bool false] 45)).drew
  generalize (w1.alloc (.cells #[.int .i64 0, .int .i64 0, .int .i64 0, .bool false, .bool false] 45)).drew = w2 at *
  generalize w1.heap.size = nb at *
  have hlk : ∀ (X : SP) W', St (X * (pts rb (.cells #[.int .i64 0, .int .i64 0, .int .i64 0, .bool false, .bool false] 45 (0, 0)) * (pts wb (.cells #[.int .u8 (e0 : Int), .int .u8 (e1 : Int), .int .u8 (e2 : Int), .int .u8 (e3 : Int)] 50 (0, 0)) * (RowP 36 (.slice (some ⟨g, 0, none⟩) l.length cl) (l.map refV) * 1)))) F W' →
      W'.cell? ⟨wb, 0, none⟩ = some (.int .u8 (e0 : Int)) ∧ W'.cell? ⟨wb, 1, none⟩ = some (.int .u8 (e1 : Int)) ∧ W'.cell? ⟨wb, 2, none⟩ = some (.int .u8 (e2 : Int)) ∧ W'.cell? ⟨wb, 3, none⟩ = some (.int .u8 (e3 : Int)) ∧ W'.cell? ⟨g, e0 % l.length, none⟩ = some (.int .i64 rx) ∧ W'.cell? ⟨g, e1 % l.length, none⟩ = some (.int .i64 ry) ∧ W'.cell? ⟨g, e2 % l.length, none⟩ = some (.int .i64 rz) := by
    intro X W' hW
    have hp := (hW.to (SP.x3 _ _ _ _)).at
    obtain ⟨_, e4, c4⟩ := (hW.to (SP.x4 _ _ _ _ _)).refAt Hr.out.1
    cases e4
    obtain ⟨_, e4, c5⟩ := (hW.to (SP.x4 _ _ _ _ _)).refAt Hr.out.2.1
    cases e4
    obtain ⟨_, e4, c6⟩ := (hW.to (SP.x4 _ _ _ _ _)).refAt Hr.out.2.2
    cases e4
    exact ⟨by rw [cell_of hp]; rfl, by rw [cell_of hp]; rfl, by rw [cell_of hp]; rfl, by rw [cell_of hp]; rfl, c4, c5, c6⟩
  have Hlk := Lib.hid hlk
  have ⟨q0, q1, q2, q3, q4, q5, q6⟩ := hlk _ _ h2
  clear hlk hS
  refine hK' _ _ ⟨⟨q0, q3, q4⟩, ?_⟩
  clear hK' K'
  have hp := h2.at
  have z0 : w2.cell? ⟨nb, 0, none⟩ = some (.int .i64 0) := by rw [cell_of hp]; rfl
  have z1 : w2.cell? ⟨nb, 1, none⟩ = some (.int .i64 0) := by rw [cell_of hp]; rfl
  have z2 : w2.cell? ⟨nb, 2, none⟩ = some (.int .i64 0) := by rw [cell_of hp]; rfl
  have z3 : w2.cell? ⟨nb, 3, none⟩ = some (.bool false) := by rw [cell_of hp]; rfl
  have z4 : w2.cell? ⟨nb, 4, none⟩ = some (.bool false) := by rw [cell_of hp]; rfl
  have zf : ∀ k, w2.frozen? ⟨nb, k, none⟩ = false := fun k => by simp [World.frozen?, hp]
  have H2 := Lib.hid h2
  clear h2 hp q0 q1 q2 q3 q4 q5 q6
  refine wpAnyH_all (rs := [15]) (by kernel_rfl) (by simp) (fun q hq => ?_)
  obtain rfl : q = 15 := by simpa using hq
  clear hq
  refine wpOp_step rfl (fun K' hK' => ?_)
  go_simp
  have h3 : St (pts nb (.cells #[.int .i64 (rx : Int), .int .i64 0, .int .i64 0, .bool bk, .bool false] 45 (0, 0)) * (pts rb (.cells #[.int .i64 0, .int .i64 0, .int .i64 0, .bool false, .bool false] 45 (0, 0)) * (pts wb (.cells #[.int .u8 (e0 : Int), .int .u8 (e1 : Int), .int .u8 (e2 : Int), .int .u8 (e3 : Int)] 50 (0, 0)) * (RowP 36 (.slice (some ⟨g, 0, none⟩) l.length cl) (l.map refV) * 1)))) F (((((w2.setCell ⟨nb, 0, none⟩ (.int .i64 (rx : Int))).setCell ⟨nb, 1, none⟩ (.int .i64 0)).setCell ⟨nb, 2, none⟩ (.int .i64 0)).setCell ⟨nb, 3, none⟩ (.bool bk)).setCell ⟨nb, 4, none⟩ (.bool false)) :=
    ((((H2.out.set (off := 0) (v := .int .i64 (rx : Int))).set (off := 1) (v := .int .i64 0)).set (off := 2) (v := .int .i64 0)).set (off := 3) (v := .bool bk)).set (off := 4) (v := .bool false)
  have ⟨q0, q1, q2, q3, q4, q5, q6⟩ := Hlk.out _ _ h3
  refine hK' _ _ ⟨⟨q0, q3, q4⟩, ?_⟩
  clear hK' K' z0 z1 z2 z3 z4 zf
  refine wpAnyH_done (by kernel_rfl) ?_ _
  generalize ((((w2.setCell ⟨nb, 0, none⟩ (.int .i64 (rx : Int))).setCell ⟨nb, 1, none⟩ (.int .i64 0)).setCell ⟨nb, 2, none⟩ (.int .i64 0)).setCell ⟨nb, 3, none⟩ (.bool bk)).setCell ⟨nb, 4, none⟩ (.bool false) = w3 at *
  have hp := h3.at
  have z0 : w3.cell? ⟨nb, 0, none⟩ = some (.int .i64 (rx : Int)) := by rw [cell_of hp]; rfl
  have z1 : w3.cell? ⟨nb, 1, none⟩ = some (.int .i64 0) := by rw [cell_of hp]; rfl
  have z2 : w3.cell? ⟨nb, 2, none⟩ = some (.int .i64 0) := by rw [cell_of hp]; rfl
  have z3 : w3.cell? ⟨nb, 3, none⟩ = some (.bool bk) := by rw [cell_of hp]; rfl
  have z4 : w3.cell? ⟨nb, 4, none⟩ = some (.bool false) := by rw [cell_of hp]; rfl
  have zf : ∀ k, w3.frozen? ⟨nb, k, none⟩ = false := fun k => by simp [World.frozen?, hp]
  clear hp
  have h4 := h3.set (off := 1) (v := .int .i64 (ry : Int))
  have H3 := Lib.hid h3
  have H4 := Lib.hid h4
  clear h3 h4 q0 q4 H2 Hb0
  cases ho1 : decide (0 < bits BinOp.and IntKind.u8 (e3 : Int) 4)
  · have ho1' : ¬ 0 < bits BinOp.and IntKind.u8 (e3 : Int) 4 := by simpa using ho1
    clear ho1
    cases ho2 : decide (0 < bits BinOp.and IntKind.u8 (e3 : Int) 24)
    · have ho2' : ¬ 0 < bits BinOp.and IntKind.u8 (e3 : Int) 24 := by simpa using ho2
      clear ho2
      have hp := (H3.out.to (SP.mul_left_comm _ _ _)).at
      have y0 : w3.cell? ⟨rb, 0, none⟩ = some (.int .i64 0) := by rw [cell_of hp]; rfl
      have y1 : w3.cell? ⟨rb, 1, none⟩ = some (.int .i64 0) := by rw [cell_of hp]; rfl
      have y2 : w3.cell? ⟨rb, 2, none⟩ = some (.int .i64 0) := by rw [cell_of hp]; rfl
      have y3 : w3.cell? ⟨rb, 3, none⟩ = some (.bool false) := by rw [cell_of hp]; rfl
      have y4 : w3.cell? ⟨rb, 4, none⟩ = some (.bool false) := by rw [cell_of hp]; rfl
      have yf : ∀ k, w3.frozen? ⟨rb, k, none⟩ = false := fun k => by simp [World.frozen?, hp]
      clear hp
      have h9 := (((((H3.out.to (SP.mul_left_comm _ _ _)).set (off := 0) (v := .int .i64 (rx : Int))).set (off := 1) (v := .int .i64 0)).set (off := 2) (v := .int .i64 0)).set (off := 3) (v := .bool bk)).set (off := 4) (v := .bool false)
      have H9 := Lib.hid h9
      clear h9
      go_wp2_with fail
      refine bodyPost_ret (v := .agg #[.int .i64 (rx : Int), .int .i64 0, .int .i64 0, .bool bk, .bool false]) (results_cell_row rfl _ _ rb 45 #[.int .i64 (rx : Int), .int .i64 0, .int .i64 0, .bool bk, .bool false] (0, 0) _ rfl H9.out.at Try.underlying45 rfl (by kernel_rfl)) rfl ⟨rx, 0, 0, bk, rfl, ⟨Hm.out.1, .inl rfl, .inl rfl⟩, ?_⟩
      exact (H9.out.to (SP.x4 _ _ _ _ _)).drop
    · have ho2' : 0 < bits BinOp.and IntKind.u8 (e3 : Int) 24 := by simpa using ho2
      clear ho2
      have h5 : St (pts nb (.cells #[.int .i64 (rx : Int), .int .i64 0, .int .i64 (rz : Int), .bool bk, .bool false] 45 (0, 0)) * (pts rb (.cells #[.int .i64 0, .int .i64 0, .int .i64 0, .bool false, .bool false] 45 (0, 0)) * (pts wb (.cells #[.int .u8 (e0 : Int), .int .u8 (e1 : Int), .int .u8 (e2 : Int), .int .u8 (e3 : Int)] 50 (0, 0)) * (RowP 36 (.slice (some ⟨g, 0, none⟩) l.length cl) (l.map refV) * 1)))) F (w3.setCell ⟨nb, 2, none⟩ (.int .i64 (rz : Int))) := H3.out.set (off := 2) (v := .int .i64 (rz : Int))
      have H5 := Lib.hid h5
      go_upto_region 6 with fail
      clear z0 z1 z2 z3 z4 zf q1 q2 q3 q5 q6
      generalize w3.setCell ⟨nb, 2, none⟩ (.int .i64 (rz : Int)) = w5 at *
      have hp := h5.at
      have z0 : (w5).cell? ⟨nb, 0, none⟩ = some (.int .i64 (rx : Int)) := by rw [cell_of hp]; rfl
      have z1 : (w5).cell? ⟨nb, 1, none⟩ = some (.int .i64 0) := by rw [cell_of hp]; rfl
      have z2 : (w5).cell? ⟨nb, 2, none⟩ = some (.int .i64 (rz : Int)) := by rw [cell_of hp]; rfl
      have z3 : (w5).cell? ⟨nb, 3, none⟩ = some (.bool bk) := by rw [cell_of hp]; rfl
      have z4 : (w5).cell? ⟨nb, 4, none⟩ = some (.bool false) := by rw [cell_of hp]; rfl
      have zf : ∀ k, (w5).frozen? ⟨nb, k, none⟩ = false := fun k => by simp [World.frozen?, hp]
      clear hp
      clear h5
      have hp := (H5.out.to (SP.mul_left_comm _ _ _)).at
      have y0 : (w5).cell? ⟨rb, 0, none⟩ = some (.int .i64 0) := by rw [cell_of hp]; rfl
      have y1 : (w5).cell? ⟨rb, 1, none⟩ = some (.int .i64 0) := by rw [cell_of hp]; rfl
      have y2 : (w5).cell? ⟨rb, 2, none⟩ = some (.int .i64 0) := by rw [cell_of hp]; rfl
      have y3 : (w5).cell? ⟨rb, 3, none⟩ = some (.bool false) := by rw [cell_of hp]; rfl
      have y4 : (w5).cell? ⟨rb, 4, none⟩ = some (.bool false) := by rw [cell_of hp]; rfl
      have yf : ∀ k, (w5).frozen? ⟨rb, k, none⟩ = false := fun k => by simp [World.frozen?, hp]
      clear hp
      have h9 := (((((H5.out.to (SP.mul_left_comm _ _ _)).set (off := 0) (v := .int .i64 (rx : Int))).set (off := 1) (v := .int .i64 0)).set (off := 2) (v := .int .i64 (rz : Int))).set (off := 3) (v := .bool bk)).set (off := 4) (v := .bool false)
      have H9 := Lib.hid h9
      clear h9
      go_wp2_with fail
      refine bodyPost_ret (v := .agg #[.int .i64 (rx : Int), .int .i64 0, .int .i64 (rz : Int), .bool bk, .bool false]) (results_cell_row rfl _ _ rb 45 #[.int .i64 (rx : Int), .int .i64 0, .int .i64 (rz : Int), .bool bk, .bool false] (0, 0) _ rfl H9.out.at Try.underlying45 rfl (by kernel_rfl)) rfl ⟨rx, 0, rz, bk, rfl, ⟨Hm.out.1, .inl rfl, .inr Hm.out.2.2⟩, ?_⟩
      exact (H9.out.to (SP.x4 _ _ _ _ _)).drop
  · have ho1' : 0 < bits BinOp.and IntKind.u8 (e3 : Int) 4 := by simpa using ho1
    clear ho1
    have h4 : St (pts nb (.cells #[.int .i64 (rx : Int), .int .i64 (ry : Int), .int .i64 0, .bool bk, .bool false] 45 (0, 0)) * (pts rb (.cells #[.int .i64 0, .int .i64 0, .int .i64 0, .bool false, .bool false] 45 (0, 0)) * (pts wb (.cells #[.int .u8 (e0 : Int), .int .u8 (e1 : Int), .int .u8 (e2 : Int), .int .u8 (e3 : Int)] 50 (0, 0)) * (RowP 36 (.slice (some ⟨g, 0, none⟩) l.length cl) (l.map refV) * 1)))) F (w3.setCell ⟨nb, 1, none⟩ (.int .i64 (ry : Int))) := H4.out
    go_upto_region 4 with fail
    clear z0 z1 z2 z3 z4 zf q1 q2 q3 q5 q6 H4
    generalize w3.setCell ⟨nb, 1, none⟩ (.int .i64 (ry : Int)) = w4 at *
    have ⟨q0, q1, q2, q3, q4, q5, q6⟩ := Hlk.out _ _ h4
    have hp := h4.at
    have z0 : (w4).cell? ⟨nb, 0, none⟩ = some (.int .i64 (rx : Int)) := by rw [cell_of hp]; rfl
    have z1 : (w4).cell? ⟨nb, 1, none⟩ = some (.int .i64 (ry : Int)) := by rw [cell_of hp]; rfl
    have z2 : (w4).cell? ⟨nb, 2, none⟩ = some (.int .i64 0) := by rw [cell_of hp]; rfl
    have z3 : (w4).cell? ⟨nb, 3, none⟩ = some (.bool bk) := by rw [cell_of hp]; rfl
    have z4 : (w4).cell? ⟨nb, 4, none⟩ = some (.bool false) := by rw [cell_of hp]; rfl
    have zf : ∀ k, (w4).frozen? ⟨nb, k, none⟩ = false := fun k => by simp [World.frozen?, hp]
    clear hp
    have H4 := Lib.hid h4
    have h5 : St (pts nb (.cells #[.int .i64 (rx : Int), .int .i64 (ry : Int), .int .i64 (rz : Int), .bool bk, .bool false] 45 (0, 0)) * (pts rb (.cells #[.int .i64 0, .int .i64 0, .int .i64 0, .bool false, .bool false] 45 (0, 0)) * (pts wb (.cells #[.int .u8 (e0 : Int), .int .u8 (e1 : Int), .int .u8 (e2 : Int), .int .u8 (e3 : Int)] 50 (0, 0)) * (RowP 36 (.slice (some ⟨g, 0, none⟩) l.length cl) (l.map refV) * 1)))) F (w4.setCell ⟨nb, 2, none⟩ (.int .i64 (rz : Int))) := h4.set (off := 2) (v := .int .i64 (rz : Int))
    have H5 := Lib.hid h5
    clear h4 h5 q0 q1 q4 q5
    cases ho2 : decide (0 < bits BinOp.and IntKind.u8 (e3 : Int) 24)
    · have ho2' : ¬ 0 < bits BinOp.and IntKind.u8 (e3 : Int) 24 := by simpa using ho2
      clear ho2
      have hp := (H4.out.to (SP.mul_left_comm _ _ _)).at
      have y0 : (w4).cell? ⟨rb, 0, none⟩ = some (.int .i64 0) := by rw [cell_of hp]; rfl
      have y1 : (w4).cell? ⟨rb, 1, none⟩ = some (.int .i64 0) := by rw [cell_of hp]; rfl
      have y2 : (w4).cell? ⟨rb, 2, none⟩ = some (.int .i64 0) := by rw [cell_of hp]; rfl
      have y3 : (w4).cell? ⟨rb, 3, none⟩ = some (.bool false) := by rw [cell_of hp]; rfl
      have y4 : (w4).cell? ⟨rb, 4, none⟩ = some (.bool false) := by rw [cell_of hp]; rfl
      have yf : ∀ k, (w4).frozen? ⟨rb, k, none⟩ = false := fun k => by simp [World.frozen?, hp]
      clear hp
      have h9 := (((((H4.out.to (SP.mul_left_comm _ _ _)).set (off := 0) (v := .int .i64 (rx : Int))).set (off := 1) (v := .int .i64 (ry : Int))).set (off := 2) (v := .int .i64 0)).set (off := 3) (v := .bool bk)).set (off := 4) (v := .bool false)
      have H9 := Lib.hid h9
      clear h9
      go_wp2_with fail
      refine bodyPost_ret (v := .agg #[.int .i64 (rx : Int), .int .i64 (ry : Int), .int .i64 0, .bool bk, .bool false]) (results_cell_row rfl _ _ rb 45 #[.int .i64 (rx : Int), .int .i64 (ry : Int), .int .i64 0, .bool bk, .bool false] (0, 0) _ rfl H9.out.at Try.underlying45 rfl (by kernel_rfl)) rfl ⟨rx, ry, 0, bk, rfl, ⟨Hm.out.1, .inr Hm.out.2.1, .inl rfl⟩, ?_⟩
      exact (H9.out.to (SP.x4 _ _ _ _ _)).drop
    · have ho2' : 0 < bits BinOp.and IntKind.u8 (e3 : Int) 24 := by simpa using ho2
      clear ho2
      go_upto_region 6 with fail
      clear z0 z1 z2 z3 z4 zf q2 q3 q6
      have h5 := H5.out
      generalize w4.setCell ⟨nb, 2, none⟩ (.int .i64 (rz : Int)) = w5 at *
      have hp := h5.at
      have z0 : (w5).cell? ⟨nb, 0, none⟩ = some (.int .i64 (rx : Int)) := by rw [cell_of hp]; rfl
      have z1 : (w5).cell? ⟨nb, 1, none⟩ = some (.int .i64 (ry : Int)) := by rw [cell_of hp]; rfl
      have z2 : (w5).cell? ⟨nb, 2, none⟩ = some (.int .i64 (rz : Int)) := by rw [cell_of hp]; rfl
      have z3 : (w5).cell? ⟨nb, 3, none⟩ = some (.bool bk) := by rw [cell_of hp]; rfl
      have z4 : (w5).cell? ⟨nb, 4, none⟩ = some (.bool false) := by rw [cell_of hp]; rfl
      have zf : ∀ k, (w5).frozen? ⟨nb, k, none⟩ = false := fun k => by simp [World.frozen?, hp]
      clear hp
      clear h5
      have hp := (H5.out.to (SP.mul_left_comm _ _ _)).at
      have y0 : (w5).cell? ⟨rb, 0, none⟩ = some (.int .i64 0) := by rw [cell_of hp]; rfl
      have y1 : (w5).cell? ⟨rb, 1, none⟩ = some (.int .i64 0) := by rw [cell_of hp]; rfl
      have y2 : (w5).cell? ⟨rb, 2, none⟩ = some (.int .i64 0) := by rw [cell_of hp]; rfl
      have y3 : (w5).cell? ⟨rb, 3, none⟩ = some (.bool false) := by rw [cell_of hp]; rfl
      have y4 : (w5).cell? ⟨rb, 4, none⟩ = some (.bool false) := by rw [cell_of hp]; rfl
      have yf : ∀ k, (w5).frozen? ⟨rb, k, none⟩ = false := fun k => by simp [World.frozen?, hp]
      clear hp
      have h9 := (((((H5.out.to (SP.mul_left_comm _ _ _)).set (off := 0) (v := .int .i64 (rx : Int))).set (off := 1) (v := .int .i64 (ry : Int))).set (off := 2) (v := .int .i64 (rz : Int))).set (off := 3) (v := .bool bk)).set (off := 4) (v := .bool false)
      have H9 := Lib.hid h9
      clear h9
      go_wp2_with fail
      refine bodyPost_ret (v := .agg #[.int .i64 (rx : Int), .int .i64 (ry : Int), .int .i64 (rz : Int), .bool bk, .bool false]) (results_cell_row rfl _ _ rb 45 #[.int .i64 (rx : Int), .int .i64 (ry : Int), .int .i64 (rz : Int), .bool bk, .bool false] (0, 0) _ rfl H9.out.at Try.underlying45 rfl (by kernel_rfl)) rfl ⟨rx, ry, rz, bk, rfl, ⟨Hm.out.1, .inr Hm.out.2.1, .inr Hm.out.2.2⟩, ?_⟩
      exact (H9.out.to (SP.x4 _ _ _ _ _)).drop
/-- .. with what lies beside. -/
def WrR (ol : Option Addr) (l : List Nat) (cl : Nat) (R : SP) (F : Fr) (e : Ending) (w' : World) : Prop := ∃ (x y z : Nat) (bk : Bool), e = .returned (.agg #[.int .i64 x, .int .i64 y, .int .i64 z, .bool bk, .bool false]) ∧ (x ∈ l ∧ (y = 0 ∨ y ∈ l) ∧ (z = 0 ∨ z ∈ l)) ∧ St (RowP 36 (.slice ol l.length cl) (l.map refV) * R) F w'
theorem write_use {ol : Option Addr} {l : List Nat} {cl : Nat} (hl : l.length ≠ 0) (hl40 : l.length ≤ 40) (e : Nat × Nat × Nat × Nat) (he : e.1 < 256 ∧ e.2.1 < 256 ∧ e.2.2.1 < 256 ∧ e.2.2.2 < 256) {R : SP} {F : Fr} {w : World} (h : St (RowP 36 (.slice ol l.length cl) (l.map refV) * R) F w) :
    Calls Try.prog 50 #[.slice ol l.length cl, .agg #[.int .u8 (e.1 : Int), .int .u8 (e.2.1 : Int), .int .u8 (e.2.2.1 : Int), .int .u8 (e.2.2.2 : Int)]] w (WrR ol l cl R F) := by
  obtain ⟨r, hr, d, hs⟩ := h.part
  refine (write_c ol l cl hl hl40 e he (F.plus r) w hs).mono ?_
  rintro e w' ⟨x, y, z, bk, rfl, hm, hq⟩
  exact ⟨x, y, z, bk, rfl, hm, hq.join hr d⟩
end Go.Proofs.Ytknmlfolbapmpaa
