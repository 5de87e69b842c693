import Derived.Test.YtknmlfolbapmpaaBits
namespace Go.Proofs.Ytknmlfolbapmpaa
open Go Go.RowKit

section
variable {P : Program} {f : FuncId} {fn : Func}
/-- sync/atomic.AndT, OrT: the new number is stored, the old one handed back. -/
theorem run_call_bits (hf : P.funcs[f]? = some fn) (hname : (fn.name == "runtime.NumGoroutine") = false) (hb : fn.body.isNone = true) (hn : Extern.findNext fn = none) (k : IntKind) (op : BinOp)
    (he : Extern.find fn = some (Extern.Atomic.update (Op.intBits op) k false)) {a : Addr} {x y s : Int} {w : World} (hc : w.cell? a = some (.int k x)) (hz : w.frozen? a = false)
    (hs : (Op.intBits op k x y).run P w = .ok (.int k s) w) :
    (callFunc f #[.pointer (some a), .int k y]).run P w = .ok (.value (.int k x)) (w.setCell a (.int k s)) := by
  rw [run_callFunc_extern hf hname hb hn he]
  change (Sem.run P (do
    let a' ← asAddr (.pointer (some a))
    let old ← Extern.Atomic.read (.int k) a'
    let new ← Op.intBits op k (← asInt old) (← asInt (.int k y))
    store a' new .atomic
    pure (if false = true then new else old)) w).andThen _ = _
  simp [Extern.Atomic.read, asAddr, asInt, asIntOf, hc, hz, hs, run_store P w a (.int k s) .atomic rfl, Result.andThen]
end

theorem run_or (P : Program) (X Y : Nat) (hX : X < 18446744073709551616) (hY : Y < 18446744073709551616) (w : World) : (Op.intBits .or .u64 X Y).run P w = .ok (.int .u64 ((X ||| Y : Nat) : Int)) w := by
  have h : X ||| Y < 2 ^ 64 := Nat.or_lt_two_pow hX hY
  have e : ((BitVec.ofInt 64 (X : Int)) ||| (BitVec.ofInt 64 (Y : Int))).toNat = X ||| Y := by
    rw [BitVec.toNat_or, BitVec.ofInt_natCast, BitVec.ofInt_natCast, BitVec.toNat_ofNat, BitVec.toNat_ofNat, Nat.mod_eq_of_lt hX, Nat.mod_eq_of_lt hY]
  have hw : IntKind.u64.wrap ((X ||| Y : Nat) : Int) = ((X ||| Y : Nat) : Int) := by rw [IntKind.wrap_u64]; omega
  show Result.ok (Value.int .u64 (IntKind.u64.wrap (((BitVec.ofInt 64 (X : Int)) ||| (BitVec.ofInt 64 (Y : Int))).toNat : Int))) w = _
  rw [e, hw]
theorem run_and (P : Program) (X Y : Nat) (hX : X < 18446744073709551616) (hY : Y < 18446744073709551616) (w : World) : (Op.intBits .and .u64 X Y).run P w = .ok (.int .u64 ((X &&& Y : Nat) : Int)) w := by
  have h : X &&& Y < 2 ^ 64 := Nat.and_lt_two_pow _ hY
  have e : ((BitVec.ofInt 64 (X : Int)) &&& (BitVec.ofInt 64 (Y : Int))).toNat = X &&& Y := by
    rw [BitVec.toNat_and, BitVec.ofInt_natCast, BitVec.ofInt_natCast, BitVec.toNat_ofNat, BitVec.toNat_ofNat, Nat.mod_eq_of_lt hX, Nat.mod_eq_of_lt hY]
  have hw : IntKind.u64.wrap ((X &&& Y : Nat) : Int) = ((X &&& Y : Nat) : Int) := by rw [IntKind.wrap_u64]; omega
  show Result.ok (Value.int .u64 (IntKind.u64.wrap (((BitVec.ofInt 64 (X : Int)) &&& (BitVec.ofInt 64 (Y : Int))).toNat : Int))) w = _
  rw [e, hw]

/-- A function, turned at one place. -/
def upd {α : Type} (S : Nat → α) (i : Nat) (v : α) : Nat → α := fun k => if k = i then v else S k
theorem upd_same {α : Type} (S : Nat → α) (i : Nat) (v : α) : upd S i v i = v := by simp [upd]
theorem upd_other {α : Type} (S : Nat → α) {i k : Nat} (v : α) (h : k ≠ i) : upd S i v k = S k := by simp [upd, h]
theorem upd_self {α : Type} (S : Nat → α) (i : Nat) : upd S i (S i) = S := by funext k; by_cases h : k = i <;> simp [upd, h]

theorem word_put (S : Nat → Bool) (i k : Nat) : word (upd S i true) k = if k = i / 64 then word S k ||| 2 ^ (i % 64) else word S k := by
  apply Nat.eq_of_testBit_eq
  intro j
  rw [word_bit]
  by_cases hk : k = i / 64
  · rw [if_pos hk, Nat.testBit_or, word_bit, Nat.testBit_two_pow]
    by_cases hj : j < 64
    · by_cases e : 64 * k + j = i
      · have : i % 64 = j := by omega
        rw [e, upd_same]; simp [this, hj]
      · rw [upd_other _ _ e]
        have : ¬ i % 64 = j := by omega
        simp [this]
    · have : ¬ i % 64 = j := by omega
      simp [hj, this]
  · rw [if_neg hk, word_bit]
    by_cases hj : j < 64
    · rw [upd_other _ _ (by omega)]
    · simp [hj]
theorem testBit_not (j m : Nat) (hj : j < 64) : (18446744073709551615 - 2 ^ j).testBit m = (decide (m < 64) && !decide (j = m)) := by
  have h : (2 : Nat) ^ j < 2 ^ 64 := Nat.pow_lt_pow_right (by decide) hj
  have := Nat.testBit_two_pow_sub_succ (n := 64) (x := 2 ^ j) h m
  rw [Nat.testBit_two_pow] at this
  rw [← this]
  congr 1
  omega
theorem word_drop (S : Nat → Bool) (i k : Nat) : word (upd S i false) k = if k = i / 64 then word S k &&& (18446744073709551615 - 2 ^ (i % 64)) else word S k := by
  apply Nat.eq_of_testBit_eq
  intro j
  rw [word_bit]
  by_cases hk : k = i / 64
  · rw [if_pos hk, Nat.testBit_and, word_bit, testBit_not _ _ (by omega)]
    by_cases hj : j < 64
    · by_cases e : 64 * k + j = i
      · have : i % 64 = j := by omega
        rw [e, upd_same]; simp [this]
      · rw [upd_other _ _ e]
        have : ¬ i % 64 = j := by omega
        simp [this, hj]
    · simp [hj]
  · rw [if_neg hk, word_bit]
    by_cases hj : j < 64
    · rw [upd_other _ _ (by omega)]
    · simp [hj]

theorem setWords_set (n : Nat) (S : Nat → Bool) (i : Nat) (v : Bool) (x : Nat) (h : word (upd S i v) (i / 64) = x) :
    setWords n (upd S i v) = .cells ((((List.range (nwords n)).map fun k => Value.int .u64 (word S k)).toArray).setIfInBounds (i / 64) (.int .u64 x)) 151 (0, 0) := by
  unfold setWords
  congr 1
  apply Array.ext
  · simp
  · intro k h1 h2
    simp only [List.size_toArray, List.length_map, List.length_range] at h1
    rw [Array.getElem_setIfInBounds (by simpa using h1)]
    by_cases e : i / 64 = k
    · subst e
      simp [h]
    · rw [if_neg e]
      simp only [List.getElem_toArray, List.getElem_map, List.getElem_range]
      cases v
      · rw [word_drop, if_neg (fun h => e h.symm)]
      · rw [word_put, if_neg (fun h => e h.symm)]

/-- A laid set: its number, its words' cells. -/
theorem St.wordAt {b lb n : Nat} {S : Nat → Bool} {R : SP} {F : Fr} {w : World} (h : St (SetL b lb n S * R) F w) (k : Nat) (hk : k < nwords n) :
    w.cell? ⟨lb, k, none⟩ = some (.int .u64 (word S k)) ∧ w.frozen? ⟨lb, k, none⟩ = false := by
  unfold SetL at h
  obtain ⟨_, h⟩ := St.whm.1 h
  rw [SP.mul_comm (pts b _), SP.mul_assoc] at h
  have hl := h.at
  unfold setWords at hl
  refine ⟨?_, frozen_of hl⟩
  rw [cell_of hl]
  simp [hk]
theorem St.setWord {b lb n : Nat} {S : Nat → Bool} {R : SP} {F : Fr} {w : World} (h : St (SetL b lb n S * R) F w) (i : Nat) (hi : i < n) (v : Bool) (x : Nat) (hx : word (upd S i v) (i / 64) = x) :
    St (SetL b lb n (upd S i v) * R) F (w.setCell ⟨lb, i / 64, none⟩ (.int .u64 x)) := by
  unfold SetL at h ⊢
  obtain ⟨⟨hn, hS⟩, h⟩ := St.whm.1 h
  refine St.whm.2 ⟨⟨hn, fun k hk => ?_⟩, ?_⟩
  · rw [upd_other _ _ (by omega)]; exact hS k hk
  · rw [SP.mul_comm (pts b _), SP.mul_assoc] at h ⊢
    rw [setWords_set n S i v x hx]
    unfold setWords at h
    exact h.set

/-- Uint64.Or. -/
theorem or_any (a : Addr) (X Y : Nat) (hX : X < 18446744073709551616) (hY : Y < 18446744073709551616) (w : World) (hc : w.cell? a = some (.int .u64 X)) (hz : w.frozen? a = false) :
    Calls Try.prog 104 #[.pointer (some a), .int .u64 Y] w fun e w' => e = .returned (.int .u64 X) ∧ w' = w.setCell a (.int .u64 ((X ||| Y : Nat) : Int)) := by
  have hr := run_call_bits (P := Try.prog) Try.func118 (by kernel_rfl) (by kernel_rfl) (by kernel_rfl) .u64 .or (by kernel_rfl) hc hz (run_or Try.prog X Y hX hY w)
  clear hX hY
  go_enter Try.func104, Try.ntmps104
  go_wp2
  go_ret
  exact ⟨rfl, rfl⟩
/-- Uint64.And. -/
theorem and_any (a : Addr) (X Y : Nat) (hX : X < 18446744073709551616) (hY : Y < 18446744073709551616) (w : World) (hc : w.cell? a = some (.int .u64 X)) (hz : w.frozen? a = false) :
    Calls Try.prog 117 #[.pointer (some a), .int .u64 Y] w fun e w' => e = .returned (.int .u64 X) ∧ w' = w.setCell a (.int .u64 ((X &&& Y : Nat) : Int)) := by
  have hr := run_call_bits (P := Try.prog) Try.func123 (by kernel_rfl) (by kernel_rfl) (by kernel_rfl) .u64 .and (by kernel_rfl) hc hz (run_and Try.prog X Y hX hY w)
  clear hX hY
  go_enter Try.func117, Try.ntmps117
  go_wp2
  go_ret
  exact ⟨rfl, rfl⟩
/-- Uint64.Load. -/
theorem load_any (a : Addr) (X : Int) (w : World) (hc : w.cell? a = some (.int .u64 X)) :
    Calls Try.prog 105 #[.pointer (some a)] w fun e w' => e = .returned (.int .u64 X) ∧ w = w' := by
  have hr := run_call_load (P := Try.prog) Try.func119 (by kernel_rfl) (by kernel_rfl) (by kernel_rfl) .u64 (by kernel_rfl) hc
  go_enter Try.func105, Try.ntmps105
  go_wp2
  go_ret
  exact ⟨rfl, rfl⟩

theorem pow_lt (c : Nat) (h : c < 64) : 2 ^ c < 18446744073709551616 := Nat.pow_lt_pow_right (m := c) (n := 64) (by decide) h
theorem word_and (S : Nat → Bool) (i : Nat) : word S (i / 64) &&& 2 ^ (i % 64) = if S i then 2 ^ (i % 64) else 0 := by
  apply Nat.eq_of_testBit_eq
  intro j
  rw [Nat.testBit_and, word_bit, Nat.testBit_two_pow]
  by_cases e : i % 64 = j
  · have : 64 * (i / 64) + j = i := by omega
    subst e
    rw [this]
    cases S i <;> simp [show i % 64 < 64 by omega]
  · cases S i <;> simp [e]

theorem SetL.toSet {b lb n : Nat} {S : Nat → Bool} : ∀ h, SetL b lb n S h → SetP b n S h := fun _ p => .inl ⟨lb, p⟩
theorem bits_and (X Y : Nat) (hX : X < 18446744073709551616) (hY : Y < 18446744073709551616) : bits .and .u64 X Y = ((X &&& Y : Nat) : Int) := by
  have h : X &&& Y < 2 ^ 64 := Nat.and_lt_two_pow _ hY
  have e : ((BitVec.ofInt 64 (X : Int)) &&& (BitVec.ofInt 64 (Y : Int))).toNat = X &&& Y := by
    rw [BitVec.toNat_and, BitVec.ofInt_natCast, BitVec.ofInt_natCast, BitVec.toNat_ofNat, BitVec.toNat_ofNat, Nat.mod_eq_of_lt hX, Nat.mod_eq_of_lt hY]
  have hw : IntKind.u64.wrap ((X &&& Y : Nat) : Int) = ((X &&& Y : Nat) : Int) := by rw [IntKind.wrap_u64]; omega
  show IntKind.u64.wrap (((BitVec.ofInt 64 (X : Int)) &&& (BitVec.ofInt 64 (Y : Int))).toNat : Int) = _
  rw [e, hw]
theorem two_pow_ne (m : Nat) : (2 : Int) ^ m ≠ 0 := Int.ne_of_gt (Int.pow_pos (by decide))
theorem bits_word (S : Nat → Bool) (i : Nat) : bits .and .u64 (word S (i / 64)) (2 ^ (i % 64)) = if S i then 2 ^ (i % 64) else 0 := by
  have h := bits_and (word S (i / 64)) (2 ^ (i % 64)) (word_lt _ _) (pow_lt _ (by omega))
  rw [word_and, Int.natCast_pow] at h
  have h2 : ((2 : Nat) : Int) = 2 := rfl
  rw [h2] at h
  rw [h]
  cases S i
  · rfl
  · simp only [if_true]; rw [Int.natCast_pow, h2]
theorem bits_word_eq (S : Nat → Bool) (i : Nat) : (bits .and .u64 (word S (i / 64)) (2 ^ (i % 64)) == 0) = !S i := by
  rw [bits_word]
  cases S i
  · rfl
  · simp only [if_true, Bool.not_true]; exact beq_eq_false_iff_ne.2 (two_pow_ne _)
theorem bits_word_ne (S : Nat → Bool) (i : Nat) : (bits .and .u64 (word S (i / 64)) (2 ^ (i % 64)) != 0) = S i := by
  rw [bne, bits_word_eq, Bool.not_not]

theorem bits_not (m : Nat) (hm : m < 64) : bits .xor .u64 IntKind.u64.max (2 ^ m) = ((18446744073709551615 - 2 ^ m : Nat) : Int) := by
  have hp := pow_lt m hm
  have e2 : (2 : Int) ^ m = ((2 ^ m : Nat) : Int) := by rw [Int.natCast_pow]; rfl
  have hmax : IntKind.u64.max = ((18446744073709551615 : Nat) : Int) := rfl
  rw [e2, hmax]
  have e : ((BitVec.ofInt 64 ((18446744073709551615 : Nat) : Int)) ^^^ (BitVec.ofInt 64 ((2 ^ m : Nat) : Int))).toNat = 18446744073709551615 - 2 ^ m := by
    rw [BitVec.ofInt_natCast, BitVec.ofInt_natCast]
    have h1 : BitVec.ofNat 64 18446744073709551615 = BitVec.allOnes 64 := by decide
    rw [h1, BitVec.allOnes_xor, BitVec.toNat_not, BitVec.toNat_ofNat, Nat.mod_eq_of_lt hp]
  have hw : IntKind.u64.wrap ((18446744073709551615 - 2 ^ m : Nat) : Int) = ((18446744073709551615 - 2 ^ m : Nat) : Int) := by rw [IntKind.wrap_u64]; omega
  show IntKind.u64.wrap (((BitVec.ofInt 64 ((18446744073709551615 : Nat) : Int)) ^^^ (BitVec.ofInt 64 ((2 ^ m : Nat) : Int))).toNat : Int) = _
  rw [e, hw]

set_option maxRecDepth 100000 in
/-- 'Put': in range. -/
theorem put_in (b n : Nat) (S : Nat → Bool) (i : Int) (h0 : 0 ≤ i) (hi : i < n) :
    Tr0 Try.prog 77 #[.pointer (some ⟨b, 0, none⟩), .int .i64 i] (SetP b n S) (.bool (!S i.toNat)) (SetP b n (upd S i.toNat true)) := by
  intro F w h
  have hm : i.toNat % 64 < 64 := by omega
  have hk : i.toNat / 64 < nwords n := by unfold nwords; omega
  have hp := pow_lt _ hm
  have hin : i.toNat < n := by omega
  have hres := bits_word_eq S i.toNat
  have Hres := Lib.hid hres; clear hres
  go_enter Try.func77, Try.ntmps77
  go_wp2_with fail
  refine (place_in b n S i h0 hi F w h).mono ?_
  rintro e w1 ⟨lb, rfl, h1⟩
  have h1 : St (SetL b lb n S * 1) F w1 := h1.mul1
  obtain ⟨c1, f1⟩ := h1.wordAt _ hk
  go_wp2_with fail
  refine (or_any _ _ _ (word_lt _ _) hp _ c1 f1).mono ?_
  rintro e w2 ⟨rfl, rfl⟩
  have h2 := h1.setWord i.toNat hin true _ (by rw [word_put, if_pos rfl])
  have h3 := (h2.impm SetL.toSet).unmul1
  generalize w1.setCell _ _ = w3 at *
  clear h1 h2 c1 f1
  go_wp2
  go_ret
  rw [← Hres.out]
  exact ⟨rfl, h3⟩

set_option maxRecDepth 100000 in
/-- 'Has': in range. -/
theorem has_in (b n : Nat) (S : Nat → Bool) (i : Int) (h0 : 0 ≤ i) (hi : i < n) :
    Tr0 Try.prog 79 #[.pointer (some ⟨b, 0, none⟩), .int .i64 i] (SetP b n S) (.bool (S i.toNat)) (SetP b n S) := by
  intro F w h
  have hm : i.toNat % 64 < 64 := by omega
  have hk : i.toNat / 64 < nwords n := by unfold nwords; omega
  have hres := bits_word_ne S i.toNat
  have Hres := Lib.hid hres; clear hres
  go_enter Try.func79, Try.ntmps79
  go_wp2_with fail
  refine (place_in b n S i h0 hi F w h).mono ?_
  rintro e w1 ⟨lb, rfl, h1⟩
  have h1 : St (SetL b lb n S * 1) F w1 := h1.mul1
  obtain ⟨c1, f1⟩ := h1.wordAt _ hk
  go_wp2_with fail
  refine (load_any _ _ _ c1).mono ?_
  rintro e w2 ⟨rfl, rfl⟩
  have h3 := (h1.impm SetL.toSet).unmul1
  go_wp2
  go_ret
  rw [← Hres.out]
  exact ⟨rfl, h3⟩

set_option maxRecDepth 100000 in
/-- 'Has': out of range. -/
theorem has_out (b n : Nat) (S : Nat → Bool) (i : Int) (hi : i < 0 ∨ n ≤ i) :
    Tr0 Try.prog 79 #[.pointer (some ⟨b, 0, none⟩), .int .i64 i] (SetP b n S) (.bool false) (SetP b n S) := by
  intro F w h
  go_enter Try.func79, Try.ntmps79
  go_wp2_with fail
  refine (place_out b n S i hi F w h).mono ?_
  rintro e w1 ⟨rfl, h1⟩
  go_wp2
  go_ret
  exact ⟨rfl, h1⟩

set_option maxRecDepth 100000 in
/-- 'Drop': in range. -/
theorem drop_in (b n : Nat) (S : Nat → Bool) (i : Int) (h0 : 0 ≤ i) (hi : i < n) :
    Tr0 Try.prog 101 #[.pointer (some ⟨b, 0, none⟩), .int .i64 i] (SetP b n S) (.bool (S i.toNat)) (SetP b n (upd S i.toNat false)) := by
  intro F w h
  have hm : i.toNat % 64 < 64 := by omega
  have hk : i.toNat / 64 < nwords n := by unfold nwords; omega
  have hp := pow_lt _ hm
  have hin : i.toNat < n := by omega
  have hres := bits_word_ne S i.toNat
  have Hres := Lib.hid hres; clear hres
  have hsg : IntKind.u64.signed = false := rfl
  have hno := bits_not (i.toNat % 64) hm
  go_enter Try.func101, Try.ntmps101
  go_wp2_with fail
  refine (place_in b n S i h0 hi F w h).mono ?_
  rintro e w1 ⟨lb, rfl, h1⟩
  have h1 : St (SetL b lb n S * 1) F w1 := h1.mul1
  obtain ⟨c1, f1⟩ := h1.wordAt _ hk
  go_wp2_with fail
  refine (and_any _ _ _ (word_lt _ _) (Nat.lt_of_le_of_lt (Nat.sub_le _ _) (by decide)) _ c1 f1).mono ?_
  rintro e w2 ⟨rfl, rfl⟩
  have h2 := h1.setWord i.toNat hin false _ (by rw [word_drop, if_pos rfl])
  have h3 := (h2.impm SetL.toSet).unmul1
  generalize w1.setCell _ _ = w3 at *
  clear h1 h2 c1 f1 hno
  go_wp2
  go_ret
  rw [← Hres.out]
  exact ⟨rfl, h3⟩

/-- 'New': an empty set. -/
theorem bitsNew_tr (n : Nat) (hn : n ≤ 100000) : Tr Try.prog 74 #[.int .i64 n] 1 (fun b : Nat => .pointer (some ⟨b, 0, none⟩)) (fun b => SetP b n fun _ => false) := by
  intro F w h
  go_enter Try.func74, Try.ntmps74
  go_wp2
  go_ret
  exact ⟨w.heap.size, rfl, (h.alloc (setObj n 0 0 (.slice none 0 0))).unmul1.imp fun _ p => .inr ⟨⟨hn, fun _ => rfl⟩, p⟩⟩
end Go.Proofs.Ytknmlfolbapmpaa
