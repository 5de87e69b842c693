import Derived.Test.YtknmlfolbapmpaaArena2
import Derived.Deep.LoopGhost
namespace Go.Proofs.Ytknmlfolbapmpaa
open Go Go.RowKit

/-- How many of the first n there are. -/
def cntF (f : Nat → Bool) : Nat → Nat
  | 0 => 0
  | n + 1 => cntF f n + if f n then 1 else 0
theorem cntF_le (f : Nat → Bool) (n : Nat) : cntF f n ≤ n := by
  induction n with
  | zero => simp [cntF]
  | succ n ih => simp only [cntF]; split <;> omega
theorem cntF_full {f : Nat → Bool} {n : Nat} (h : ∀ k, k < n → f k = true) : cntF f n = n := by
  induction n with
  | zero => rfl
  | succ n ih => simp only [cntF]; rw [ih (fun k hk => h k (by omega)), h n (by omega)]; rfl
theorem cntF_zero {f : Nat → Bool} {n : Nat} (h : ∀ k, k < n → f k = false) : cntF f n = 0 := by
  induction n with
  | zero => rfl
  | succ n ih => simp only [cntF]; rw [ih (fun k hk => h k (by omega)), h n (by omega)]; rfl
theorem cntF_of_zero {f : Nat → Bool} {n : Nat} (h : cntF f n = 0) : ∀ k, k < n → f k = false := by
  induction n with
  | zero => intro k hk; omega
  | succ n ih =>
    intro k hk
    simp only [cntF] at h
    by_cases e : k = n
    · subst e; cases hf : f k
      · rfl
      · rw [hf] at h; simp at h
    · exact ih (by omega) k (by omega)
theorem cntF_of_full {f : Nat → Bool} {n : Nat} (h : cntF f n = n) : ∀ k, k < n → f k = true := by
  induction n with
  | zero => intro k hk; omega
  | succ n ih =>
    intro k hk
    have hl := cntF_le f n
    simp only [cntF] at h
    by_cases e : k = n
    · subst e; cases hf : f k
      · rw [hf] at h; simp at h; omega
      · rfl
    · exact ih (by split at h <;> omega) k (by omega)
theorem cntF_congr {f g : Nat → Bool} {n : Nat} (h : ∀ k, k < n → f k = g k) : cntF f n = cntF g n := by
  induction n with
  | zero => rfl
  | succ n ih => simp only [cntF]; rw [ih (fun k hk => h k (by omega)), h n (by omega)]
theorem cntF_upd (f : Nat → Bool) {n i : Nat} (v : Bool) (hi : i < n) : cntF (upd f i v) n + (if f i then 1 else 0) = cntF f n + if v then 1 else 0 := by
  induction n with
  | zero => omega
  | succ n ih =>
    simp only [cntF]
    by_cases e : i = n
    · subst e
      have : cntF (upd f i v) i = cntF f i := cntF_congr fun k hk => upd_other _ _ (by omega)
      rw [this, upd_same]
      omega
    · rw [upd_other _ _ (by omega)]
      have := ih (by omega)
      omega

/-- An arena as it may be. -/
structure Ar.WF (A : Ar) : Prop where
  np : A.np ≤ 64
  cls : ∀ p, p < A.np → A.cls p = -1 ∨ (0 ≤ A.cls p ∧ A.cls p < 3)
  cnt : ∀ p, p < A.np → A.cnt p = cntF (fun k => A.tk (rf p (A.cls p) k)) (cN (A.cls p))
  pos : ∀ p, p < A.np → 0 ≤ A.cls p → 0 < A.cnt p
  tk : ∀ r, A.tk r = true → ∃ p k, p < A.np ∧ 0 ≤ A.cls p ∧ k < cN (A.cls p) ∧ r = rf p (A.cls p) k
  free : A.free = cntF (fun p => decide (A.cls p < 0)) A.np

/-- 'gap' finds a free cell. -/
def Ar.gapAt (A : Ar) (c : Int) (p k : Nat) : Prop :=
  p < A.np ∧ A.cls p = c ∧ A.cnt p ≠ cN c ∧ (∀ q, q < p → A.cls q = c → A.cnt q = cN c) ∧ k < cN c ∧ A.tk (rf p c k) = false ∧ ∀ j, j < k → A.tk (rf p c j) = true
/-- 'gap' finds none. -/
def Ar.gapNo (A : Ar) (c : Int) : Prop := ∀ q, q < A.np → A.cls q = c → A.cnt q = cN c

def gapV : Option (Nat × Nat) → Value
  | some (p, k) => .tuple #[.int .i64 p, .int .i64 k, .bool true]
  | none => .tuple #[.int .i64 0, .int .i64 0, .bool false]
def Ar.gapIs (A : Ar) (c : Int) : Option (Nat × Nat) → Prop
  | some (p, k) => A.gapAt c p k
  | none => A.gapNo c

set_option maxRecDepth 100000 in
theorem gap_tr (i : ArId) (A : Ar) (hA : A.WF) (c : Int) (h0 : 0 ≤ c) (h3 : c < 3) :
    Tr Try.prog 99 #[.pointer (some ⟨i.a, 0, none⟩), .int .i64 c] (ArenaP i A)
      gapV (fun x => SP.wh (A.gapIs c x) (ArenaP i A)) := by
  intro F w h
  have hA1 := Lib.hid hA; clear hA
  have hcn : cN c ≤ 16 := by rcases wN_cases h0 h3 with ⟨_, _, e, _⟩ | ⟨_, _, e, _⟩ | ⟨_, _, e, _⟩ <;> omega
  obtain ⟨hn, h1⟩ := St.ar.1 h.mul1
  have hn1 : A.np ≤ 64 := hn.1
  have c0 : w.cell? ⟨i.a, 0, none⟩ = some (.slice (some ⟨i.pb, 0, none⟩) A.np A.np) := by rw [cell_of h1.at]; rfl
  clear hn h1
  go_enter Try.func99, Try.ntmps99
  go_wp2_with fail
  go_step3
  go_wp2_with fail
  go_step3
  go_wp2_with fail
  go_loopw [15] (fun v wr => ∃ k : Nat, k ≤ A.np ∧ v = .int .i64 k ∧ (∀ q, q < k → A.cls q = c → A.cnt q = cN c) ∧ St (ArenaP i A) F wr) (fun v _ => A.np - (intOf v).toNat)
  case atStart => exact ⟨0, Nat.zero_le _, rfl, fun q hq => absurd hq (Nat.not_lt_zero _), h⟩
  case round =>
    obtain ⟨k, hk, rfl, hq, hs⟩ := hrel
    have Hq := Lib.hid hq; clear hq
    obtain ⟨hn, h1⟩ := St.ar.1 hs.mul1
    rw [SP.mul_left_comm] at h1
    by_cases hlt : k < A.np
    · have c1 := page_cls h1.at hlt
      have c2 := page_cnt h1.at hlt
      clear h1 hn
      have hs1 := hs.grown0 (World.grownBy_alloc wr (.cells #[.int .i64 (A.cls k), .int .i64 (A.cnt k)] 107) none)
      by_cases hc : A.cls k = c
      · have hc1 : (A.cls k != c) = false := by simp [hc]
        have Hc := Lib.hid hc; clear hc
        by_cases hf : A.cnt k = cN c
        · have hf1 : ((A.cnt k : Int) == (cN c : Int)) = true := by simp [hf]
          have Hf := Lib.hid hf; clear hf
          go_wp2_with fail
          go_quiet ((go_at_call 87; exact Calls.quiet_of_same (cellsN_any _ _)))
          go_wp2
          go_roundw
          case rel => exact ⟨k + 1, by omega, by go_num, fun q hq hqc => if e : q = k then by rw [e]; exact Hf.out else Hq.out q (by omega) hqc, hs1.drewN nq⟩
          case measure => simp [intOf]; omega
        · have hf1 : ((A.cnt k : Int) == (cN c : Int)) = false := by rw [beq_eq_false_iff_ne]; omega
          have Hf := Lib.hid hf; clear hf
          go_wp2_with fail
          go_quiet ((go_at_call 87; exact Calls.quiet_of_same (cellsN_any _ _)))
          have hs2 := hs1.drewN nq
          clear hs hs1 c1 c2 c0
          go_wp2_with fail
          refine (cellsN_any _ _).mono ?_
          rintro e w' ⟨rfl, rfl⟩
          obtain ⟨wo, hwo⟩ : ∃ wo : World, wo = (wr.alloc (.cells #[.int .i64 (A.cls k), .int .i64 (A.cnt k)] 107)).drewN nq := ⟨_, rfl⟩
          rw [← hwo] at hs2 ⊢
          clear hwo
          go_wp2_with fail
          go_loopw [33] (fun v wr => ∃ j : Nat, j ≤ cN c ∧ v = .int .i64 j ∧ (∀ q, q < j → A.tk (rf k c q) = true) ∧ St (ArenaP i A) F wr) (fun v _ => cN c - (intOf v).toNat)
          case atStart => exact ⟨0, Nat.zero_le _, rfl, fun q hq => absurd hq (Nat.not_lt_zero _), hs2⟩
          case round =>
            obtain ⟨j, hj, rfl, hjq, hs3⟩ := hrel
            have Hjq := Lib.hid hjq; clear hjq
            by_cases hjlt : j < cN c
            · have hk64 : k < 64 := by omega
              have hrf : rf k c j ≤ 32 * A.np := by have := (rf_lt (p := k) h0 h3 hjlt).2.1; omega
              go_wp2_with fail
              refine (ref_any k j c hk64 h0 h3 hjlt _).mono ?_
              rintro e w' ⟨rfl, rfl⟩
              go_wp2_with fail
              refine (arHas_tr i A (rf k c j) hrf F _ hs3).mono ?_
              rintro e w1 ⟨rfl, hs4⟩
              clear hs3 hs2
              cases ht : A.tk (rf k c j)
              · have Ht := Lib.hid ht; clear ht
                go_wp2
                rw [Exit.noGoto_ret]
                go_ret3
                exact ⟨some (k, j), rfl, St.wh.2 ⟨⟨by omega, Hc.out, Hf.out, Hq.out, hjlt, Ht.out, Hjq.out⟩, hs4⟩⟩
              · have Ht := Lib.hid ht; clear ht
                go_wp2
                go_roundw
                case rel => exact ⟨j + 1, by omega, by go_num, fun q hq => if e : q = j then by rw [e]; exact Ht.out else Hjq.out q (by omega), hs4⟩
                case measure => simp [intOf]; omega
            · exfalso
              have hj' : j = cN c := by omega
              have hcnt := hA1.out.cnt k hlt
              rw [Hc.out, cntF_full (fun q hq => Hjq.out q (by omega))] at hcnt
              exact Hf.out hcnt
      · have hc1 : (A.cls k != c) = true := by simp [hc]
        have Hc := Lib.hid hc; clear hc
        go_wp2_with fail
        go_quiet ((go_at_call 87; exact Calls.quiet_of_same (cellsN_any _ _)))
        go_wp2
        go_roundw
        case rel => exact ⟨k + 1, by omega, by go_num, fun q hq hqc => if e : q = k then absurd (e ▸ hqc) Hc.out else Hq.out q (by omega) hqc, hs1.drewN nq⟩
        case measure => simp [intOf]; omega
    · obtain rfl : k = A.np := by omega
      clear h1 hn
      go_wp2
      rw [Exit.noGoto_ret]
      go_ret3
      exact ⟨none, rfl, St.wh.2 ⟨Hq.out, hs⟩⟩
end Go.Proofs.Ytknmlfolbapmpaa
