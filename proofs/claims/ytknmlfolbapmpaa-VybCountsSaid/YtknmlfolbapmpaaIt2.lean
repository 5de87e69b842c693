import Derived.Test.YtknmlfolbapmpaaIt1
import Derived.Test.YtknmlfolbapmpaaMark
namespace Go.Proofs.Ytknmlfolbapmpaa
open Go Go.RowKit

set_option maxRecDepth 100000 in
/-- The function that cell.Points hands back. -/
theorem points1_it (i : ArId) (A : Ar) (r n k1 k2 : Nat) (hO : A.Ob r n) (I : Nat → SP) (hskip : ∀ j x, A.wd (r + 1 + j) = 0 → I j x → I (j + 1) x) :
    ItC (ι := Nat) 94 #[.pointer (some ⟨k1, 0, none⟩), .pointer (some ⟨k2, 0, none⟩)] (boxP k1 (.pointer (some ⟨i.a, 0, none⟩)) 28 * (boxP k2 (.int .i64 r) 36 * (ArenaP i A * I 0)))
      (ArenaP i A * I n) (fun j => j < n ∧ A.wd (r + 1 + j) ≠ 0) (fun j => #[.int .i64 (A.wd (r + 1 + j))]) (fun j => ArenaP i A * I j) (fun j => ArenaP i A * I (j + 1)) := by
  intro l R Rx hY F w h
  have hY' := Lib.hid hY
  clear hY
  have hn6 : n ≤ 6 := by obtain ⟨_, _, _, _, _, _, h, _⟩ := hO.word; exact h
  have HO := Lib.hid hO
  clear hO
  obtain ⟨X, hX⟩ : ∃ X, X = boxP k1 (.pointer (some ⟨i.a, 0, none⟩)) 28 * boxP k2 (.int .i64 r) 36 := ⟨_, rfl⟩
  have HX := Lib.hid hX
  have c0 := (h.to (Q := boxP k1 (.pointer (some ⟨i.a, 0, none⟩)) 28 * (boxP k2 (.int .i64 r) 36 * (ArenaP i A * (I 0 * R)))) (by simp only [SP.mul_assoc, SP.mul_left_comm, SP.mul_comm])).box
  have c1 := (h.to (Q := boxP k2 (.int .i64 r) 36 * (boxP k1 (.pointer (some ⟨i.a, 0, none⟩)) 28 * (ArenaP i A * (I 0 * R)))) (by simp only [SP.mul_assoc, SP.mul_left_comm, SP.mul_comm])).box
  have h1 : St (ArenaP i A * (I 0 * (X * R))) F w := h.to (by rw [hX]; simp only [SP.mul_assoc, SP.mul_left_comm, SP.mul_comm])
  clear h hX
  have hf := (fields_tr i A r n HO.out).use h1
  have Hf := Lib.hid hf
  clear h1 hf
  have wF : ∀ f, Fence.wide.fn f := fun _ => trivial
  have wD : Fence.wide.depth = none := rfl
  refine (callsIn_wide (n := 0)).1 ?_
  refine callsIn_of_wp Try.func94 rfl trivial ?_
  simp only [Try.ntmps94, List.size_toArray, List.length_cons, List.length_nil, Nat.reduceAdd, Nat.reduceSub, Array.replicate_succ, Array.replicate_zero, List.push_toArray, List.append_toArray, List.nil_append, List.cons_append]
  gi_wp2_with fail
  refine (callsIn_wide.2 Hf.out).mono ?_
  rintro e w1 ⟨rfl, h1⟩
  clear c0 c1
  gi_wp2_with fail
  gi_loopw [10] (fun v wr => ∃ j : Nat, j ≤ n ∧ v = .int .i64 j ∧ St (ArenaP i A * (I j * (X * R))) F wr) (fun v _ => n - (intOf v).toNat)
  case atStart => exact ⟨0, Nat.zero_le _, rfl, h1⟩
  case round =>
    obtain ⟨j, hj, rfl, hs⟩ := hrel
    clear h1
    have c0 : wr.cell? ⟨k1, 0, none⟩ = some (.pointer (some ⟨i.a, 0, none⟩)) := by
      have := hs.to (Q := boxP k1 (.pointer (some ⟨i.a, 0, none⟩)) 28 * (boxP k2 (.int .i64 r) 36 * (ArenaP i A * (I j * R)))) (by rw [HX.out]; simp only [SP.mul_assoc, SP.mul_left_comm, SP.mul_comm])
      exact this.box
    have c1 : wr.cell? ⟨k2, 0, none⟩ = some (.int .i64 r) := by
      have := hs.to (Q := boxP k2 (.int .i64 r) 36 * (boxP k1 (.pointer (some ⟨i.a, 0, none⟩)) 28 * (ArenaP i A * (I j * R)))) (by rw [HX.out]; simp only [SP.mul_assoc, SP.mul_left_comm, SP.mul_comm])
      exact this.box
    have Hs := Lib.hid hs
    clear hs
    by_cases hlt : j < n
    · have hlt' : (j : Int) < n := by omega
      have hc := (field_in i A r n HO.out (j : Int) (by omega) hlt').use Hs.out
      rw [Int.toNat_natCast] at hc
      have hw : IntKind.i64.wrap ((j : Int) + 1) = ((j + 1 : Nat) : Int) := by rw [IntKind.wrap_i64]; omega
      gi_wp2_with fail
      refine (callsIn_wide.2 hc).mono ?_
      clear hc
      rintro e w2 ⟨rfl, h2⟩
      clear c0 c1
      by_cases hz : A.wd (r + 1 + j) = 0
      · have hzb : (A.wd (r + 1 + j) != 0) = false := by simp [hz]
        have h3 : St (ArenaP i A * (I (j + 1) * (X * R))) F w2 := by
          have h3 : St (I j * (ArenaP i A * (X * R))) F w2 := h2.to (by simp only [SP.mul_assoc, SP.mul_left_comm, SP.mul_comm])
          exact (h3.impm (fun x => hskip j x hz)).to (by simp only [SP.mul_assoc, SP.mul_left_comm, SP.mul_comm])
        have H3 := Lib.hid h3
        clear h2 h3 hz
        gi_wp2_with fail
        go_roundw
        case rel => exact ⟨j + 1, by omega, by go_num, H3.out⟩
        case measure => simp [intOf]; omega
      · have hzb : (A.wd (r + 1 + j) != 0) = true := by simp [hz]
        have hp : St (ArenaP i A * I j * R * X) F w2 := h2.to (by simp only [SP.mul_assoc, SP.mul_left_comm, SP.mul_comm])
        obtain ⟨f1, t1, a1, b1, hy, hR⟩ := (hY'.out j ⟨hlt, hz⟩).use hp 0
        have HR := Lib.hid hR
        clear hR h2 hp hz
        try dsimp only at hy
        gi_wp2_with fail
        refine (roundIn_wide HR.out).mono ?_
        rintro e w3 (⟨rfl, h3⟩ | ⟨rfl, h3⟩)
        · have h4 : St (ArenaP i A * (I (j + 1) * (X * R))) F w3 := h3.to (by simp only [SP.mul_assoc, SP.mul_left_comm, SP.mul_comm])
          have H4 := Lib.hid h4
          clear h3 h4
          gi_wp2_with fail
          go_roundw
          case rel => exact ⟨j + 1, by omega, by go_num, H4.out⟩
          case measure => simp [intOf]; omega
        · gi_wp2_with fail
          refine bodyPost_ret (results_none rfl _ _ _) rfl ?_
          exact ⟨rfl, .inr h3⟩
    · obtain rfl : j = n := by omega
      gi_wp2_with fail
      go_end0
      exact ⟨rfl, .inl ((Hs.out.to (Q := ArenaP i A * I j * R * X) (by simp only [SP.mul_assoc, SP.mul_left_comm, SP.mul_comm])).drop)⟩
end Go.Proofs.Ytknmlfolbapmpaa
