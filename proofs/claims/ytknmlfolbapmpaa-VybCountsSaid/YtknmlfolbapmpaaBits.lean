import Derived.Test.YtknmlfolbapmpaaOnce2
namespace Go.Proofs.Ytknmlfolbapmpaa
open Go Go.RowKit

/-- The number whose bits below m are f's. -/
def ofB (f : Nat → Bool) : Nat → Nat
  | 0 => 0
  | m + 1 => ofB f m ||| (if f m then 2 ^ m else 0)
theorem ofB_bit (f : Nat → Bool) (m j : Nat) : (ofB f m).testBit j = (decide (j < m) && f j) := by
  induction m with
  | zero => simp [ofB]
  | succ m ih =>
    rw [ofB, Nat.testBit_or, ih]
    by_cases h : f m
    · simp only [h, if_true, Nat.testBit_two_pow]
      by_cases e : m = j
      · subst e; simp [h]
      · have : decide (j < m + 1) = decide (j < m) := by simp; omega
        rw [this]; simp [e]
    · simp only [h, Bool.false_eq_true, if_false, Nat.zero_testBit, Bool.or_false]
      by_cases e : m = j
      · subst e; simp [h]
      · have : decide (j < m + 1) = decide (j < m) := by simp; omega
        rw [this]
theorem ofB_lt (f : Nat → Bool) (m : Nat) : ofB f m < 2 ^ m := Nat.lt_pow_two_of_testBit _ fun i hi => by rw [ofB_bit]; simp; omega
theorem ofB_congr {f g : Nat → Bool} {m : Nat} (h : ∀ j, j < m → f j = g j) : ofB f m = ofB g m := by
  apply Nat.eq_of_testBit_eq
  intro i
  rw [ofB_bit, ofB_bit]
  by_cases hi : i < m
  · simp [hi, h i hi]
  · simp [hi]
/-- A set's word. -/
def word (S : Nat → Bool) (k : Nat) : Nat := ofB (fun j => S (64 * k + j)) 64
theorem word_lt (S : Nat → Bool) (k : Nat) : word S k < 18446744073709551616 := ofB_lt _ 64
theorem word_bit (S : Nat → Bool) (k j : Nat) : (word S k).testBit j = (decide (j < 64) && S (64 * k + j)) := ofB_bit _ _ _
theorem word_none (k : Nat) : word (fun _ => false) k = 0 := by
  apply Nat.eq_of_testBit_eq; intro i; rw [word_bit]; simp

def setWords (n : Nat) (S : Nat → Bool) : Obj := .cells ((List.range (nwords n)).map fun k => Value.int .u64 (word S k)).toArray 151 (0, 0)
theorem setWords_zero (n : Nat) : zeroWords n = setWords n fun _ => false := by
  unfold zeroWords setWords
  congr 1
  apply Array.ext
  · simp [madeCells]
  · intro i h1 h2
    simp [madeCells, word_none, Nat.mod_one]

/-- A set, its words laid at lb. -/
def SetL (b lb n : Nat) (S : Nat → Bool) : SP := SP.wh (n ≤ 100000 ∧ ∀ i, n ≤ i → S i = false) (pts b (setObj n 1 0 (.slice (some ⟨lb, 0, none⟩) (nwords n) (nwords n))) * pts lb (setWords n S))
/-- A set. -/
def SetP (b n : Nat) (S : Nat → Bool) : SP := fun h => (∃ lb, SetL b lb n S h) ∨ SP.wh (n ≤ 100000 ∧ ∀ i, S i = false) (pts b (setObj n 0 0 (.slice none 0 0))) h
theorem SetL.set {b lb n : Nat} {S : Nat → Bool} {h : Hp} (p : SetL b lb n S h) : SetP b n S h := .inl ⟨lb, p⟩

/-- 'words': a set's words are laid. -/
theorem words_tr (b n : Nat) (S : Nat → Bool) :
    Tr Try.prog 106 #[.pointer (some ⟨b, 0, none⟩)] (SetP b n S) (fun lb : Nat => .slice (some ⟨lb, 0, none⟩) (nwords n) (nwords n)) (fun lb => SetL b lb n S) := by
  intro F w h
  obtain ⟨x, hx, r⟩ := h
  rcases hx with ⟨lb, hn, hp⟩ | ⟨⟨hn, hS⟩, hp⟩
  · have h : St (pts b (setObj n 1 0 (.slice (some ⟨lb, 0, none⟩) (nwords n) (nwords n))) * pts lb (setWords n S)) F w := ⟨x, hp, r⟩
    refine ((words_again b lb n 0).use h).mono ?_
    rintro e w' ⟨rfl, h'⟩
    exact ⟨lb, rfl, St.wh.2 ⟨hn, h'⟩⟩
  · have h : St (pts b (setObj n 0 0 (.slice none 0 0))) F w := ⟨x, hp, r⟩
    refine (words_first b n _ (by omega) (by omega) F w h).mono ?_
    rintro e w' ⟨lb, rfl, h'⟩
    obtain rfl : S = fun _ => false := funext hS
    rw [setWords_zero] at h'
    exact ⟨lb, rfl, St.wh.2 ⟨⟨hn, fun _ _ => rfl⟩, h'⟩⟩

theorem SetP.bound {b n : Nat} {S : Nat → Bool} {h : Hp} (p : SetP b n S h) : n ≤ 100000 ∧ ∀ i, n ≤ i → S i = false := by
  rcases p with ⟨lb, hn, _⟩ | ⟨hn, _⟩
  · exact hn
  · exact ⟨hn.1, fun i _ => hn.2 i⟩
theorem St.setBound {b n : Nat} {S : Nat → Bool} {R : SP} {F : Fr} {w : World} (h : St (SetP b n S * R) F w) : n ≤ 100000 ∧ ∀ i, n ≤ i → S i = false := by
  obtain ⟨x, ⟨p, q, hp, _⟩, _⟩ := h
  exact hp.bound
theorem St.setN {b n : Nat} {S : Nat → Bool} {R : SP} {F : Fr} {w : World} (h : St (SetP b n S * R) F w) : w.cell? ⟨b, 0, none⟩ = some (.int .i64 n) := by
  obtain ⟨x, ⟨p, q, hx, _, _, rfl⟩, on, _⟩ := h
  rcases hx with ⟨lb, _, hp⟩ | ⟨_, hp⟩
  · obtain ⟨p, q, hp, _, _, rfl⟩ := hp
    cases hp
    rw [cell_of (on.left.left b _ (Hp.one_self _ _))]; rfl
  · cases hp
    rw [cell_of (on.left b _ (Hp.one_self _ _))]; rfl
theorem run_shl1 (P : Program) (c : Int) (h0 : 0 ≤ c) (h1 : c < 64) (w : World) : (Op.shift .shl .u64 1 .i64 c).run P w = .ok (.int .u64 ((2 ^ c.toNat : Nat) : Int)) w := by
  have e : min c.toNat 64 = c.toNat := by omega
  have hlt : (2 : Int) ^ c.toNat < 18446744073709551616 := by
    have h : (2 : Nat) ^ c.toNat < 2 ^ 64 := Nat.pow_lt_pow_right (by decide) (by omega)
    have h2 := Int.ofNat_lt.2 h
    rw [Int.natCast_pow] at h2
    exact h2
  have hpos : (0 : Int) ≤ 2 ^ c.toNat := Int.le_of_lt (Int.pow_pos (by decide))
  have hw : IntKind.u64.wrap ((2 : Int) ^ c.toNat) = 2 ^ c.toNat := by rw [IntKind.wrap_u64]; omega
  unfold Op.shift
  rw [if_neg (by omega)]
  simp only [IntKind.bits]
  rw [e, Int.one_mul, hw, Int.natCast_pow]
  rfl
theorem wrap_pow (c : Nat) (h : c < 64) : IntKind.u64.wrap (2 ^ c) = ((2 ^ c : Nat) : Int) := by
  have hlt : (2 : Int) ^ c < 18446744073709551616 := by
    have h : (2 : Nat) ^ c < 2 ^ 64 := Nat.pow_lt_pow_right (by decide) (by omega)
    have h2 := Int.ofNat_lt.2 h
    rw [Int.natCast_pow] at h2
    exact h2
  have hpos : (0 : Int) ≤ 2 ^ c := Int.le_of_lt (Int.pow_pos (by decide))
  rw [IntKind.wrap_u64, Int.natCast_pow]
  simp only [Int.cast_ofNat_Int]
  omega

/-- 'place': the word and the bit. -/
theorem place_in (b n : Nat) (S : Nat → Bool) (i : Int) (h0 : 0 ≤ i) (hi : i < n) :
    Tr Try.prog 103 #[.pointer (some ⟨b, 0, none⟩), .int .i64 i] (SetP b n S) (fun lb : Nat => .tuple #[.pointer (some ⟨lb, i.toNat / 64, none⟩), .int .u64 (2 ^ (i.toNat % 64) : Nat), .bool true]) (fun lb => SetL b lb n S) := by
  intro F w h
  rw [← SP.mul_one (SetP _ _ _)] at h
  have hn := h.setBound.1
  have c0 := h.setN
  rw [SP.mul_one] at h
  have hd := h.drew
  have q1 : i / 64 < (nwords n : Int) := by unfold nwords; omega
  have q2 : 0 ≤ i / 64 := by omega
  have hsh := run_shl1 Try.prog (i % 64) (by omega) (by omega)
  have v4 : (i % 64).toNat = i.toNat % 64 := by omega
  have v3 : (i / 64).toNat = i.toNat / 64 := by omega
  have v1 : IntKind.i64.wrap (i.tdiv 64) = i / 64 := by rw [Int.tdiv_eq_ediv_of_nonneg h0]; exact IntWalk.i64_in _ (by omega)
  have v2 : i.tmod 64 = i % 64 := Int.tmod_eq_emod_of_nonneg h0
  go_enter Try.func103, Try.ntmps103
  go_wp2
  go_region_with (go_at_call 106; refine (words_tr b n S F _ hd).mono ?_; rintro e w' ⟨lb, rfl, h'⟩)
  all_goals
    go_wp2
    go_ret3
    have hw := wrap_pow (i.toNat % 64) (by omega)
    refine ⟨lb, ?_, h'⟩
    first | rfl | (rw [← hw]; rfl)

theorem place_out (b n : Nat) (S : Nat → Bool) (i : Int) (hi : i < 0 ∨ n ≤ i) :
    Tr0 Try.prog 103 #[.pointer (some ⟨b, 0, none⟩), .int .i64 i] (SetP b n S) (.tuple #[.pointer none, .int .u64 0, .bool false]) (SetP b n S) := by
  intro F w h
  rw [← SP.mul_one (SetP _ _ _)] at h
  have c0 := h.setN
  rw [SP.mul_one] at h
  by_cases h0 : i < 0
  · clear hi
    go_enter Try.func103, Try.ntmps103
    go_wp2
    go_ret3
    exact ⟨rfl, h⟩
  · have hi' : n ≤ i := by omega
    clear hi
    go_enter Try.func103, Try.ntmps103
    go_wp2
    go_ret3
    exact ⟨rfl, h⟩
end Go.Proofs.Ytknmlfolbapmpaa
