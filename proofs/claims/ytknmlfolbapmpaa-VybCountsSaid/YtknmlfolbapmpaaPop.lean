import Derived.Test.YtknmlfolbapmpaaPick
namespace Go.Proofs.Ytknmlfolbapmpaa
open Go Go.RowKit

def popA (x : Int) : Int := IntKind.u64.wrap (bits .and .u64 (x / 2) 6148914691236517205 + bits .and .u64 x 6148914691236517205)
def popB (x : Int) : Int := IntKind.u64.wrap (bits .and .u64 (x / 4) 3689348814741910323 + bits .and .u64 x 3689348814741910323)
def popC (x : Int) : Int := bits .and .u64 (IntKind.u64.wrap (x / 16 + x)) 1085102592571150095
def popD (k x : Int) : Int := IntKind.u64.wrap (x + x / k)
/-- What the library reckons of a word. -/
def popc (x : Int) : Int := bits .and .i64 (wrap64 (popD 4294967296 (popD 65536 (popD 256 (popC (popB (popA x))))))) 127
theorem ones_any (x : Nat) (hx : x < 18446744073709551616) (w : World) : Calls Try.prog 107 #[.int .u64 x] w fun e w' => e = .returned (.int .i64 (popc x)) ∧ w' = w := by
  have H := Lib.hid hx
  clear hx
  go_enter Try.func107, Try.ntmps107
  go_wp2
  go_ret
  exact ⟨rfl, rfl⟩
/-- What is reckoned of the first k words. -/
def popw (S : Nat → Bool) : Nat → Int
  | 0 => 0
  | k + 1 => wrap64 (popw S k + popc (word S k))
def setCount (S : Nat → Bool) (n : Nat) : Int := popw S (nwords n)
theorem popw_none (S : Nat → Bool) (h : ∀ i, S i = false) (k : Nat) : popw S k = 0 := by
  have hw : ∀ k, word S k = 0 := fun k => by rw [show S = fun _ => false from funext h]; exact word_none k
  have h0 : popc ((0 : Nat) : Int) = 0 := by kernel_rfl
  induction k with
  | zero => rfl
  | succ k ih => rw [popw, ih, hw, h0]; unfold wrap64; decide
theorem nwords_le {n : Nat} (h : n ≤ 100000) : nwords n ≤ 1563 := by unfold nwords; omega
set_option maxRecDepth 100000 in
/-- bits.Set.Count. -/
theorem bitsCount_tr (b n : Nat) (S : Nat → Bool) : Tr0 Try.prog 81 #[.pointer (some ⟨b, 0, none⟩)] (SetP b n S) (.int .i64 (setCount S n)) (SetP b n S) := by
  intro F w h
  have Hc := Lib.hid (words_tr b n S F w h)
  have hn := nwords_le h.mul1.setBound.1
  clear h
  go_enter Try.func81, Try.ntmps81
  go_wp2_with fail
  refine Hc.out.mono ?_
  rintro e w1 ⟨lb, rfl, h1⟩
  clear Hc
  go_wp2_with fail
  go_loopw [3, 10] (fun s v wr => ∃ k : Nat, k ≤ nwords n ∧ v = .int .i64 k ∧ s = .int .i64 (popw S k) ∧ St (SetL b lb n S) F wr) (fun _ v _ => nwords n - (intOf v).toNat)
  case atStart => exact ⟨0, Nat.zero_le _, rfl, rfl, h1⟩
  case round =>
    clear h1
    obtain ⟨k, hk, rfl, rfl, hs⟩ := hrel
    by_cases hlt : k < nwords n
    · have hlt' : (k : Int) < nwords n := by omega
      have hk0 : 0 ≤ (k : Int) := by omega
      have hw3 : IntKind.i64.wrap ((k : Int) + 1) = ((k + 1 : Nat) : Int) := by rw [IntKind.wrap_i64]; omega
      obtain ⟨cw, _⟩ := hs.mul1.wordAt k hlt
      have Hs := Lib.hid hs
      clear hs
      go_wp2_with fail
      refine (load_any _ _ _ cw).mono ?_
      rintro e w2 ⟨rfl, rfl⟩
      go_wp2_with fail
      refine (ones_any (word S k) (word_lt S k) _).mono ?_
      rintro e w2 ⟨rfl, rfl⟩
      go_wp2_with fail
      go_roundw
      case rel => exact ⟨k + 1, by omega, by go_num, rfl, Hs.out⟩
      case measure => simp [intOf]; omega
    · obtain rfl : k = nwords n := by omega
      go_wp2_with fail
      go_ret
      exact ⟨rfl, hs.imp SetL.toSet⟩
/-- Count. -/
theorem mkCount_tr (i : MkId) (M : Mk) : Tr0 Try.prog 34 #[.pointer (some ⟨i.m, 0, none⟩)] (MarkP i M) (.int .i64 (setCount M.md i.N)) (MarkP i M) := by
  intro F w h
  obtain ⟨_, c1, _, _⟩ := h.mul1.markF
  have Hc := Lib.hid ((bitsCount_tr i.mb i.N M.md).use (St.markMb.1 h.mul1))
  go_enter Try.func34, Try.ntmps34
  go_wp2_with fail
  refine Hc.out.mono ?_
  rintro e w1 ⟨rfl, h1⟩
  go_wp2
  go_ret
  exact ⟨rfl, (St.markMb.2 h1).unmul1⟩
end Go.Proofs.Ytknmlfolbapmpaa
