import Derived.Test.YtknmlfolbapmpaaGive
namespace Go.Proofs.Ytknmlfolbapmpaa
open Go Go.RowKit

/-- An object of n fields. -/
def Ar.Ob (A : Ar) (r n : Nat) : Prop :=
  A.tk r = true ∧ A.wd (r - 1) = n ∧ ∃ p k, p < A.np ∧ 0 ≤ A.cls p ∧ A.cls p < 3 ∧ k < cN (A.cls p) ∧ r = rf p (A.cls p) k ∧ 2 + n ≤ wN (A.cls p)
theorem Ar.Ob.word {A : Ar} {r n : Nat} (h : A.Ob r n) : ∃ p, p < A.np ∧ (p * 32 + 1 ≤ r ∧ r ≤ p * 32 + 32) ∧ A.tk r = true ∧ 1 ≤ r ∧ r - 1 + (2 + n) ≤ 32 * A.np ∧ n ≤ 6 ∧ ((2 + n : Nat) : Int) ≤ words (A.cls p) := by
  obtain ⟨htk, _, p, k, hp, h0, h3, hk, hr, hn⟩ := h
  have hb := rf_lt (p := p) h0 h3 hk
  rw [← hr] at hb
  have hw : words (A.cls p) = (wN (A.cls p) : Int) ∧ k * wN (A.cls p) + wN (A.cls p) ≤ 32 ∧ wN (A.cls p) ≤ 8 := by
    rcases wN_cases h0 h3 with ⟨_, e1, e2, e3, _⟩ | ⟨_, e1, e2, e3, _⟩ | ⟨_, e1, e2, e3, _⟩ <;> rw [e2] at hk <;> rw [e1, e3] <;> omega
  have hr2 : r - 1 = p * 32 + k * wN (A.cls p) := by rw [hr]; unfold rf; omega
  exact ⟨p, hp, ⟨by omega, by omega⟩, htk, by omega, by omega, by omega, by omega⟩

set_option maxRecDepth 100000 in
/-- Fields. -/
theorem fields_tr (i : ArId) (A : Ar) (r n : Nat) (h : A.Ob r n) : Tr0 Try.prog 55 #[.pointer (some ⟨i.a, 0, none⟩), .int .i64 r] (ArenaP i A) (.int .i64 n) (ArenaP i A) := by
  intro F w hs
  obtain ⟨p, hp, hr, htk, h1, hw, hn6, hwd⟩ := h.word
  have hc := Word_tr i A p r 0 hp hr htk (Int.le_refl _) (by omega) (by simp; omega) F w hs
  have e : A.wd (r - 1 + (0 : Int).toNat) = n := h.2.1
  rw [e] at hc
  clear e
  go_enter Try.func55, Try.ntmps55
  go_wp2_with fail
  refine hc.mono ?_
  clear hc
  rintro e w1 ⟨rfl, h1⟩
  go_wp2
  go_ret
  exact ⟨rfl, h1⟩
/-- check: there is such a field. -/
theorem check_in (i : ArId) (A : Ar) (r n : Nat) (h : A.Ob r n) (j : Int) (h0 : 0 ≤ j) (hj : j < n) : Tr0 Try.prog 92 #[.pointer (some ⟨i.a, 0, none⟩), .int .i64 r, .int .i64 j] (ArenaP i A) (.int .i64 0) (ArenaP i A) := by
  intro F w hs
  obtain ⟨p, hp, hr, htk, h1, hw, hn6, hwd⟩ := h.word
  have hz : ((r : Int) == 0) = false := by rw [beq_eq_false_iff_ne]; omega
  have hc := fields_tr i A r n h F w hs
  have hl : ¬ (n : Int) ≤ j := by omega
  clear h hwd htk hw hj
  go_enter Try.func92, Try.ntmps92
  go_wp2_with fail
  refine hc.mono ?_
  clear hc
  rintro e w1 ⟨rfl, h1⟩
  go_wp2
  go_ret
  exact ⟨rfl, h1⟩
/-- Field. -/
theorem field_in (i : ArId) (A : Ar) (r n : Nat) (h : A.Ob r n) (j : Int) (h0 : 0 ≤ j) (hj : j < n) : Tr0 Try.prog 57 #[.pointer (some ⟨i.a, 0, none⟩), .int .i64 r, .int .i64 j] (ArenaP i A) (.tuple #[.int .i64 (A.wd (r + 1 + j.toNat)), .int .i64 0]) (ArenaP i A) := by
  intro F w hs
  obtain ⟨p, hp, hr, htk, h1, hw, hn6, hwd⟩ := h.word
  have hc := check_in i A r n h j h0 hj F w hs
  have hwc := Word_tr i A p r (2 + j) hp hr htk (by omega) (by omega) (by omega) F
  have e : r - 1 + (2 + j).toNat = r + 1 + j.toNat := by omega
  rw [e] at hwc
  have Hwc := Lib.hid hwc
  have hlt : j ≤ 6 := by omega
  clear h hwd htk hw hwc e hj
  go_enter Try.func57, Try.ntmps57
  go_wp2_with fail
  refine hc.mono ?_
  clear hc
  rintro e w1 ⟨rfl, h1⟩
  go_wp2_with fail
  refine (Hwc.out _ h1).mono ?_
  rintro e w2 ⟨rfl, h2⟩
  go_wp2
  go_ret2
  exact ⟨rfl, h2⟩
/-- SetField. -/
theorem setField_in (i : ArId) (A : Ar) (r n : Nat) (h : A.Ob r n) (j x : Int) (h0 : 0 ≤ j) (hj : j < n) : Tr0 Try.prog 58 #[.pointer (some ⟨i.a, 0, none⟩), .int .i64 r, .int .i64 j, .int .i64 x] (ArenaP i A) (.int .i64 0) (ArenaP i { A with wd := upd A.wd (r + 1 + j.toNat) x }) := by
  intro F w hs
  obtain ⟨p, hp, hr, htk, h1, hw, hn6, hwd⟩ := h.word
  have hc := check_in i A r n h j h0 hj F w hs
  have hwc := Set_tr i A p r (2 + j) x hp hr htk (by omega) (by omega) (by omega) F
  have e : r - 1 + (2 + j).toNat = r + 1 + j.toNat := by omega
  rw [e] at hwc
  have Hwc := Lib.hid hwc
  have hlt : j ≤ 6 := by omega
  clear h hwd htk hw hwc e hj
  go_enter Try.func58, Try.ntmps58
  go_wp2_with fail
  refine hc.mono ?_
  clear hc
  rintro e w1 ⟨rfl, h1⟩
  go_wp2_with fail
  refine (Hwc.out _ h1).mono ?_
  rintro e w2 ⟨rfl, h2⟩
  go_wp2
  go_ret
  exact ⟨rfl, h2⟩

/-- An arena behind a New. -/
def Ar.newed (A : Ar) (c : Int) (p k : Nat) (f : Nat) : Ar := { A.took c p k with wd := upd (A.took c p k).wd (rf p c k - 1) f }
theorem classOf_ok {f : Nat} (hf : f ≤ 6) : 0 ≤ classOf f ∧ classOf f < 3 ∧ 2 + f ≤ wN (classOf f) := by
  obtain rfl | rfl | rfl | rfl | rfl | rfl | rfl : f = 0 ∨ f = 1 ∨ f = 2 ∨ f = 3 ∨ f = 4 ∨ f = 5 ∨ f = 6 := by omega
  all_goals decide
set_option maxRecDepth 100000 in
/-- New: there is room. -/
theorem cellNew_yes (i : ArId) (A : Ar) (hA : A.WF) (f : Nat) (hf : f ≤ 6) (hr : ¬ A.noRoom (classOf f)) :
    Tr Try.prog 73 #[.pointer (some ⟨i.a, 0, none⟩), .int .i64 f] (ArenaP i A) (fun x : PK => .tuple #[.int .i64 (rf x.p (classOf f) x.k), .int .i64 0]) (fun x => SP.wh (A.takes (classOf f) x.p x.k) (ArenaP i (A.newed (classOf f) x.p x.k f))) := by
  intro F w hs
  obtain ⟨hc0, hc3, hcw⟩ := classOf_ok hf
  have hcl := class_any (f : Int) w (by omega) (by omega)
  have htk := take_yes i A hA (classOf f) hc0 hc3 hr F w hs
  have Hcl := Lib.hid hcl
  have Htk := Lib.hid htk
  have Hcw := Lib.hid hcw
  have HA := Lib.hid hA
  clear hcl htk hcw hr hA
  generalize classOf f = c at *
  go_enter Try.func73, Try.ntmps73
  go_wp2_with fail
  refine Hcl.out.mono ?_
  rintro e w' ⟨rfl, rfl⟩
  go_wp2_with fail
  refine Htk.out.mono ?_
  rintro e w1 ⟨⟨p, k⟩, rfl, hx⟩
  obtain ⟨ht, h1⟩ := St.wh.1 hx
  have hbk : p < A.np ∧ k < cN c := by
    rcases ht with ⟨a, _, _, _, b, _⟩ | ⟨_, a, _, _, rfl⟩
    · exact ⟨a, b⟩
    · exact ⟨a, by rcases wN_cases hc0 hc3 with ⟨_, _, e, _⟩ | ⟨_, _, e, _⟩ | ⟨_, _, e, _⟩ <;> omega⟩
  have hb := rf_lt (p := p) hc0 hc3 hbk.2
  have hcls : (A.took c p k).cls p = c := upd_same _ _ _
  have hset := Set_tr i (A.took c p k) p (rf p c k) 0 f hbk.1 ⟨hb.1, hb.2.1⟩ (upd_same _ _ _) (Int.le_refl _) (by rw [hcls]; rcases wN_cases hc0 hc3 with ⟨_, _, _, e, _⟩ | ⟨_, _, _, e, _⟩ | ⟨_, _, _, e, _⟩ <;> omega) (by show rf p c k - 1 + (0 : Int).toNat < 32 * A.np; simp; omega) F w1 h1
  have Hset := Lib.hid hset
  have Hht := Lib.hid ht
  clear hset ht hbk hb hcls h1 hx
  go_wp2_with fail
  refine Hset.out.mono ?_
  rintro e w2 ⟨rfl, h2⟩
  go_wp2
  go_ret2
  exact ⟨⟨p, k⟩, rfl, St.wh.2 ⟨Hht.out, h2⟩⟩
set_option maxRecDepth 100000 in
/-- New: there is no room. -/
theorem cellNew_no (i : ArId) (A : Ar) (hA : A.WF) (f : Nat) (hf : f ≤ 6) (hr : A.noRoom (classOf f)) :
    Tr0 Try.prog 73 #[.pointer (some ⟨i.a, 0, none⟩), .int .i64 f] (ArenaP i A) (.tuple #[.int .i64 0, .int .i64 10]) (ArenaP i A) := by
  intro F w hs
  obtain ⟨hc0, hc3, hcw⟩ := classOf_ok hf
  have hcl := class_any (f : Int) w (by omega) (by omega)
  have htk := take_no i A hA (classOf f) hc0 hc3 hr F w hs
  have Hcl := Lib.hid hcl
  have Htk := Lib.hid htk
  clear hcl htk hcw hr hA
  generalize classOf f = c at *
  go_enter Try.func73, Try.ntmps73
  go_wp2_with fail
  refine Hcl.out.mono ?_
  rintro e w' ⟨rfl, rfl⟩
  go_wp2_with fail
  refine Htk.out.mono ?_
  rintro e w1 ⟨rfl, h1⟩
  go_wp2
  go_ret2
  exact ⟨rfl, h1⟩
end Go.Proofs.Ytknmlfolbapmpaa
