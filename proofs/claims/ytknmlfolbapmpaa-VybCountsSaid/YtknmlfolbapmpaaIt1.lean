import Derived.Test.YtknmlfolbapmpaaRf
import Derived.Test.YtknmlfolbapmpaaBits2
import Derived.LoopIn
namespace Go.Proofs.Ytknmlfolbapmpaa
open Go Go.RowKit

/-- A variable's box. -/
def boxP (b : Nat) (v : Value) (T : TypeId) : SP := pts b (.cells #[v] T (0, 0))
theorem St.box {b : Nat} {v : Value} {T : TypeId} {R : SP} {F : Fr} {w : World} (h : St (boxP b v T * R) F w) : w.cell? ⟨b, 0, none⟩ = some v := by
  rw [cell_of h.at]; rfl
theorem St.boxZ {b : Nat} {v : Value} {T : TypeId} {R : SP} {F : Fr} {w : World} (h : St (boxP b v T * R) F w) : w.frozen? ⟨b, 0, none⟩ = false := frozen_of h.at
theorem St.boxSet {b : Nat} {v u : Value} {T : TypeId} {R : SP} {F : Fr} {w : World} (h : St (boxP b v T * R) F w) : St (boxP b u T * R) F (w.setCell ⟨b, 0, none⟩ u) := h.set (c := #[v]) (off := 0) (v := u)

set_option maxRecDepth 100000 in
/-- The function that bits.Set.All hands back. -/
theorem bitsAll1_it (b N k : Nat) (I : Nat → (Nat → Bool) → SP) (S0 : Nat → Bool) (hskip : ∀ i S x, S i = false → I i S x → I (i + 1) S x) :
    ItC (ι := Nat × (Nat → Bool)) 116 #[.pointer (some ⟨k, 0, none⟩)] (boxP k (.pointer (some ⟨b, 0, none⟩)) 89 * (SetP b N S0 * I 0 S0))
      (SP.ex fun S => SetP b N S * I N S) (fun i => i.1 < N ∧ i.2 i.1 = true) (fun i => #[.int .i64 i.1]) (fun i => SetP b N i.2 * I i.1 i.2) (fun i => SP.ex fun S => SetP b N S * I (i.1 + 1) S) := by
  intro l R Rx hY F w h
  have hY' := Lib.hid hY
  clear hY
  have hN := (h.to (Q := SetP b N S0 * (boxP k (.pointer (some ⟨b, 0, none⟩)) 89 * (I 0 S0 * R))) (by simp only [SP.mul_assoc, SP.mul_left_comm, SP.mul_comm])).setBound.1
  have c0 := (h.to (Q := boxP k (.pointer (some ⟨b, 0, none⟩)) 89 * (SetP b N S0 * (I 0 S0 * R))) (by simp only [SP.mul_assoc, SP.mul_left_comm, SP.mul_comm])).box
  have c1 := (h.to (Q := SetP b N S0 * (boxP k (.pointer (some ⟨b, 0, none⟩)) 89 * (I 0 S0 * R))) (by simp only [SP.mul_assoc, SP.mul_left_comm, SP.mul_comm])).setN
  have h1 : St (SetP b N S0 * (I 0 S0 * (boxP k (.pointer (some ⟨b, 0, none⟩)) 89 * R))) F w := h.to (by simp only [SP.mul_assoc, SP.mul_left_comm, SP.mul_comm])
  have H := Lib.hid h1
  clear h h1
  refine (callsIn_wide (n := 0)).1 ?_
  have wF : ∀ f, Fence.wide.fn f := fun _ => trivial
  have wD : Fence.wide.depth = none := rfl
  refine callsIn_of_wp Try.func116 rfl trivial ?_
  simp only [Try.ntmps116, List.size_toArray, List.length_cons, List.length_nil, Nat.reduceAdd, Nat.reduceSub, Array.replicate_succ, Array.replicate_zero, List.push_toArray, List.append_toArray, List.nil_append, List.cons_append]
  gi_wp2
  gi_loopw [8] (fun u8 wr => ∃ (i : Nat) (S : Nat → Bool), i ≤ N ∧ u8 = .int .i64 i ∧ St (SetP b N S * (I i S * (boxP k (.pointer (some ⟨b, 0, none⟩)) 89 * R))) F wr) (fun v _ => N - (intOf v).toNat)
  case atStart => exact ⟨0, S0, Nat.zero_le _, rfl, H.out⟩
  case round =>
    obtain ⟨i, S, hi, rfl, hs⟩ := hrel
    have cb := (hs.to (Q := boxP k (.pointer (some ⟨b, 0, none⟩)) 89 * (SetP b N S * (I i S * R))) (by simp only [SP.mul_assoc, SP.mul_left_comm, SP.mul_comm])).box
    have Hs := Lib.hid hs
    clear hs
    by_cases hlt : i < N
    · have hlt' : (i : Int) < N := by omega
      have hc := (has_in b N S (i : Int) (by omega) (by omega)).use Hs.out
      rw [Int.toNat_natCast] at hc
      have hw : IntKind.i64.wrap ((i : Int) + 1) = ((i + 1 : Nat) : Int) := by rw [IntKind.wrap_i64]; omega
      gi_wp2_with fail
      refine (callsIn_wide.2 hc).mono ?_
      clear hc
      rintro e w1 ⟨rfl, h1⟩
      cases hS : S i
      · have h2 : St (SetP b N S * (I (i + 1) S * (boxP k (.pointer (some ⟨b, 0, none⟩)) 89 * R))) F w1 := by
          have h3 : St (I i S * (SetP b N S * (boxP k (.pointer (some ⟨b, 0, none⟩)) 89 * R))) F w1 := h1.to (by simp only [SP.mul_assoc, SP.mul_left_comm, SP.mul_comm])
          exact (h3.impm (fun x => hskip i S x hS)).to (by simp only [SP.mul_assoc, SP.mul_left_comm, SP.mul_comm])
        have H2 := Lib.hid h2
        clear h1 h2
        gi_wp2_with fail
        go_roundw
        case rel => exact ⟨i + 1, S, by omega, by go_num, H2.out⟩
        case measure => simp [intOf]; omega
      · have hp : St (SetP b N S * I i S * R * boxP k (.pointer (some ⟨b, 0, none⟩)) 89) F w1 := h1.to (by simp only [SP.mul_assoc, SP.mul_left_comm, SP.mul_comm])
        obtain ⟨f1, t1, a1, b1, hy, hR⟩ := (hY'.out (i, S) ⟨hlt, hS⟩).use hp 0
        have HR := Lib.hid hR
        clear hR h1 hp
        dsimp only at hy
        gi_wp2_with fail
        refine (roundIn_wide HR.out).mono ?_
        rintro e w2 (⟨rfl, h2⟩ | ⟨rfl, h2⟩)
        · gi_wp2_with fail
          obtain ⟨S2, h3⟩ := St.exm.1 (h2.to (Q := SP.ex (fun S => SetP b N S * I (i + 1) S) * (R * boxP k (.pointer (some ⟨b, 0, none⟩)) 89)) (SP.mul_assoc _ _ _))
          go_roundw
          case rel => exact ⟨i + 1, S2, by omega, by go_num, h3.to (by simp only [SP.mul_assoc, SP.mul_left_comm, SP.mul_comm])⟩
          case measure => simp [intOf]; omega
        · gi_wp2_with fail
          refine bodyPost_ret (results_none rfl _ _ _) rfl ?_
          exact ⟨rfl, .inr h2⟩
    · obtain rfl : i = N := by omega
      gi_wp2_with fail
      go_end0
      exact ⟨rfl, .inl (St.exm.2 ⟨S, (Hs.out.to (Q := SetP b i S * I i S * R * boxP k (.pointer (some ⟨b, 0, none⟩)) 89) (by simp only [SP.mul_assoc, SP.mul_left_comm, SP.mul_comm])).drop⟩)⟩
end Go.Proofs.Ytknmlfolbapmpaa
