import Derived.Test.YtknmlfolbapmpaaTake
namespace Go.Proofs.Ytknmlfolbapmpaa
open Go Go.RowKit

set_option maxRecDepth 100000 in
/-- Take: there is no room. -/
theorem take_no (i : ArId) (A : Ar) (hA : A.WF) (c : Int) (h0 : 0 ≤ c) (h3 : c < 3) (hr : A.noRoom c) :
    Tr0 Try.prog 62 #[.pointer (some ⟨i.a, 0, none⟩), .int .i64 c] (ArenaP i A) (.tuple #[.int .i64 0, .bool false]) (ArenaP i A) := by
  intro F w h
  have hrm := room_no i A hA c h0 h3 hr F w h
  clear hr hA
  go_enter Try.func62, Try.ntmps62
  go_wp2_with fail
  refine hrm.mono ?_
  clear hrm
  rintro e w1 ⟨rfl, h1⟩
  go_wp2
  go_ret2
  exact ⟨rfl, h1⟩

/-- An arena behind a Give. -/
def Ar.gave (A : Ar) (p r : Nat) : Ar :=
  { A with
    cls := if A.cnt p = 1 then upd A.cls p (-1) else A.cls
    cnt := upd A.cnt p (A.cnt p - 1)
    tk := upd A.tk r false
    free := if A.cnt p = 1 then A.free + 1 else A.free }

set_option maxRecDepth 100000 in
set_option maxHeartbeats 1000000 in
/-- Give. -/
theorem give_tr (i : ArId) (A : Ar) (p r : Nat) (hp : p < A.np) (hr : p * 32 + 1 ≤ r ∧ r ≤ p * 32 + 32) (htk : A.tk r = true) (hc0 : 0 < A.cnt p) (hc1 : A.cnt p ≤ 16) (hfr : A.cnt p = 1 → A.free + 1 ≤ A.np) :
    Tr0 Try.prog 85 #[.pointer (some ⟨i.a, 0, none⟩), .int .i64 r] (ArenaP i A) (.bool true) (ArenaP i (A.gave p r)) := by
  intro F w h
  obtain ⟨hn, h1⟩ := St.ar.1 h.mul1
  have hn1 := hn.1
  have c2 : w.cell? ⟨i.a, 2, none⟩ = some (.pointer (some ⟨i.tb, 0, none⟩)) := by rw [cell_of h1.at]; rfl
  have h2 : St (SetP i.tb (32 * A.np + 1) A.tk * (pts i.a (arObj i.pb i.wb i.tb A.np A.free) * (pts i.pb (pagesObj A) * (pts i.wb (wordsObj A) * 1)))) F w := h1.to (by simp only [SP.mul_assoc, SP.mul_left_comm, SP.mul_comm])
  have hdrop := (drop_in i.tb (32 * A.np + 1) A.tk (r : Int) (by omega) (by omega)).use h2
  rw [Int.toNat_natCast, htk] at hdrop
  have Hdrop := Lib.hid hdrop
  have Htk := Lib.hid htk
  have Hfr := Lib.hid hfr
  clear hdrop h2 h1 htk hfr
  go_enter Try.func85, Try.ntmps85
  go_wp2_with fail
  refine Hdrop.out.mono ?_
  clear Hdrop
  rintro e w1 ⟨rfl, h3⟩
  have h4 : St (pts i.a (arObj i.pb i.wb i.tb A.np A.free) * (pts i.pb (pagesObj A) * (pts i.wb (wordsObj A) * (SetP i.tb (32 * A.np + 1) (upd A.tk r false) * 1)))) F w1 := h3.to (by simp only [SP.mul_assoc, SP.mul_left_comm, SP.mul_comm])
  have hA2 : St (ArenaP i { A with tk := upd A.tk r false } * 1) F w1 := St.ar.2 ⟨hn, h4⟩
  have c0 : w1.cell? ⟨i.a, 0, none⟩ = some (.slice (some ⟨i.pb, 0, none⟩) A.np A.np) := by rw [cell_of h4.at]; rfl
  have hpg : ((r : Int) - 1) / 32 = (p : Int) := by omega
  have hpc : ∀ nq, Calls Try.prog 38 #[.pointer (some ⟨i.a, 0, none⟩), .int .i64 r] (w1.drewN nq) fun e w' => e = .returned (.int .i64 p) ∧ w' = w1.drewN nq := fun nq => by
    have := (page_tr i { A with tk := upd A.tk r false } r (by omega) (by show (r : Int) ≤ 32 * A.np; omega)).use (hA2.drewN nq)
    rw [hpg] at this
    exact this.mono fun _ _ ⟨a, b⟩ => ⟨a, b.symm⟩
  have Hpc := Lib.hid hpc
  have h5 := h4
  rw [SP.mul_left_comm] at h5
  have q1 := page_cnt h5.at hp
  have q0 := page_cls h5.at hp
  have z1 : w1.frozen? ⟨i.pb, p * 2 + 1, none⟩ = false := frozen_of h5.at
  clear hpc hpg c2 h3 hA2
  go_wp2_with fail
  go_quiet ((go_at_call 38; exact Calls.quiet_of_same (Hpc.out _)))
  have s1 := (h5.drewN nq).setCnt (p := p) (v := A.cnt p - 1)
  have e1 : ((A.cnt p - 1 : Nat) : Int) = (A.cnt p : Int) - 1 := by omega
  rw [e1] at s1
  have e2 : ((upd A.cnt p (A.cnt p - 1) p : Nat) : Int) = (A.cnt p : Int) - 1 := by rw [upd_same]; exact e1
  have q2 : ((w1.drewN nq).setCell ⟨i.pb, p * 2 + 1, none⟩ (.int .i64 ((A.cnt p : Int) - 1))).cell? ⟨i.pb, p * 2 + 1, none⟩ = some (.int .i64 ((A.cnt p : Int) - 1)) :=
    (page_cnt s1.at hp).trans (congrArg (fun x => some (Value.int .i64 x)) e2)
  have q3 : ((w1.drewN nq).setCell ⟨i.pb, p * 2 + 1, none⟩ (.int .i64 ((A.cnt p : Int) - 1))).cell? ⟨i.pb, p * 2, none⟩ = some (.int .i64 (A.cls p)) := page_cls (A := { A with cnt := upd A.cnt p (A.cnt p - 1) }) s1.at hp
  have z3 : ((w1.drewN nq).setCell ⟨i.pb, p * 2 + 1, none⟩ (.int .i64 ((A.cnt p : Int) - 1))).frozen? ⟨i.pb, p * 2, none⟩ = false := frozen_of s1.at
  have He1 := Lib.hid e1
  clear e1 e2 h4 h5
  by_cases h1 : A.cnt p = 1
  · have hz : ((A.cnt p : Int) - 1 == 0) = true := by rw [h1]; rfl
    have s3 := s1.setCls (p := p) (v := -1)
    rw [SP.mul_left_comm] at s3
    have hfree : A.free ≤ A.np := hn.2
    have q4 : (((w1.drewN nq).setCell ⟨i.pb, p * 2 + 1, none⟩ (.int .i64 ((A.cnt p : Int) - 1))).setCell ⟨i.pb, p * 2, none⟩ (.int .i64 (-1))).cell? ⟨i.a, 3, none⟩ = some (.int .i64 A.free) := by rw [cell_of (w := _) s3.at]; rfl
    have z4 : (((w1.drewN nq).setCell ⟨i.pb, p * 2 + 1, none⟩ (.int .i64 ((A.cnt p : Int) - 1))).setCell ⟨i.pb, p * 2, none⟩ (.int .i64 (-1))).frozen? ⟨i.a, 3, none⟩ = false := frozen_of (w := _) s3.at
    have s4 : St (pts i.a (arObj i.pb i.wb i.tb A.np ((A.free + 1 : Nat) : Int)) * _) F ((((w1.drewN nq).setCell ⟨i.pb, p * 2 + 1, none⟩ (.int .i64 ((A.cnt p : Int) - 1))).setCell ⟨i.pb, p * 2, none⟩ (.int .i64 (-1))).setCell ⟨i.a, 3, none⟩ (.int .i64 ((A.free : Int) + 1))) := s3.set (off := 3) (v := .int .i64 ((A.free : Int) + 1))
    have H1 := Lib.hid h1
    clear h1 s1 s3
    go_wp2
    go_ret
    refine ⟨rfl, ?_⟩
    have e : A.gave p r = { A with cls := upd A.cls p (-1), cnt := upd A.cnt p (A.cnt p - 1), tk := upd A.tk r false, free := A.free + 1 } := by
      unfold Ar.gave
      rw [if_pos H1.out, if_pos H1.out]
    rw [e]
    apply St.unmul1
    exact St.ar.2 ⟨⟨hn.1, Hfr.out H1.out⟩, s4⟩
  · have hz : ((A.cnt p : Int) - 1 == 0) = false := by rw [beq_eq_false_iff_ne]; omega
    have H1 := Lib.hid h1
    clear h1
    go_wp2
    go_ret
    refine ⟨rfl, ?_⟩
    have e : A.gave p r = { A with cnt := upd A.cnt p (A.cnt p - 1), tk := upd A.tk r false } := by
      unfold Ar.gave
      rw [if_neg H1.out, if_neg H1.out]
    rw [e]
    apply St.unmul1
    have s2 : St (pts i.a (arObj i.pb i.wb i.tb A.np A.free) * (pts i.pb (pagesObj { A with cnt := upd A.cnt p (A.cnt p - 1), tk := upd A.tk r false }) * (pts i.wb (wordsObj { A with cnt := upd A.cnt p (A.cnt p - 1), tk := upd A.tk r false }) * (SetP i.tb (32 * A.np + 1) (upd A.tk r false) * 1)))) F _ := s1.to (SP.mul_left_comm _ _ _)
    exact St.ar.2 ⟨hn, s2⟩

/-- A word's cell. -/
theorem words_at {A : Ar} {w : World} {wb j : Nat} (h : w.heap[wb]? = some (wordsObj A)) (hj : j < 32 * A.np) : w.cell? ⟨wb, j, none⟩ = some (.int .i64 (A.wd j)) := by
  rw [cell_of h, row_get _ hj]
theorem St.setWd {i : ArId} {A : Ar} {j : Nat} {v : Int} {R : SP} {F : Fr} {w : World} (h : St (pts i.wb (wordsObj A) * R) F w) :
    St (pts i.wb (wordsObj { A with wd := upd A.wd j v }) * R) F (w.setCell ⟨i.wb, j, none⟩ (.int .i64 v)) := by
  have h1 := h.set (off := j) (v := .int .i64 v)
  rw [row_set] at h1
  have e : (row (32 * A.np) fun k => if k = j then Value.int .i64 v else .int .i64 (A.wd k)) = row (32 * A.np) fun k => .int .i64 (upd A.wd j v k) := row_congr fun k _ => by
    by_cases e : k = j
    · subst e; rw [if_pos rfl, upd_same]
    · rw [if_neg e, upd_other _ _ e]
  rw [e] at h1
  exact h1

set_option maxRecDepth 100000 in
set_option maxHeartbeats 1000000 in
/-- 'word': a cell's word. -/
theorem word_tr (i : ArId) (A : Ar) (p r : Nat) (j : Int) (hp : p < A.np) (hr : p * 32 + 1 ≤ r ∧ r ≤ p * 32 + 32) (htk : A.tk r = true) (h0 : 0 ≤ j) (hj : j < words (A.cls p)) (hw : r - 1 + j.toNat < 32 * A.np) :
    Tr0 Try.prog 110 #[.pointer (some ⟨i.a, 0, none⟩), .int .i64 r, .int .i64 j] (ArenaP i A) (.pointer (some ⟨i.wb, r - 1 + j.toNat, none⟩)) (ArenaP i A) := by
  intro F w h
  obtain ⟨hn, h1⟩ := St.ar.1 h.mul1
  have hn1 := hn.1
  have hhas := arHas_tr i A r (by omega) F w h
  rw [htk] at hhas
  have Hhas := Lib.hid hhas
  have hpg : ((r : Int) - 1) / 32 = (p : Int) := by omega
  have hpgc := page_tr i A r (by omega) (by omega) F
  rw [hpg] at hpgc
  have Hpg := Lib.hid hpgc
  have Hcl := Lib.hid (class_tr i A p hp F)
  obtain ⟨r', rfl⟩ : ∃ r', r = r' + 1 := ⟨r - 1, by omega⟩
  obtain ⟨n, rfl⟩ := Int.eq_ofNat_of_zero_le h0
  rw [Int.toNat_natCast, Nat.add_sub_cancel] at hw ⊢
  have hneg : ¬ words (A.cls p) ≤ (n : Int) := by omega
  generalize hwd : words (A.cls p) = wds at *
  have Hwd := Lib.hid hwd
  clear hwd hhas hpg hpgc htk h1 hj hn h0
  go_enter Try.func110, Try.ntmps110
  go_wp2_with fail
  refine Hhas.out.mono ?_
  rintro e w1 ⟨rfl, h1⟩
  obtain ⟨hn, h2⟩ := St.ar.1 h1.mul1
  have c1 : w1.cell? ⟨i.a, 1, none⟩ = some (.slice (some ⟨i.wb, 0, none⟩) (32 * A.np) (32 * A.np)) := by rw [cell_of h2.at]; rfl
  clear hn h2 h
  go_wp2_with fail
  refine (Hpg.out _ h1).mono ?_
  rintro e w' ⟨rfl, rfl⟩
  go_wp2_with fail
  refine (Hcl.out _ h1).mono ?_
  rintro e w' ⟨rfl, rfl⟩
  go_wp2_with fail
  refine (words_any _ _).mono ?_
  rintro e w' ⟨rfl, rfl⟩
  rw [Hwd.out]
  go_wp2
  go_ret
  exact ⟨rfl, h1⟩

/-- Word: what it is. -/
theorem Word_tr (i : ArId) (A : Ar) (p r : Nat) (j : Int) (hp : p < A.np) (hr : p * 32 + 1 ≤ r ∧ r ≤ p * 32 + 32) (htk : A.tk r = true) (h0 : 0 ≤ j) (hj : j < words (A.cls p)) (hw : r - 1 + j.toNat < 32 * A.np) :
    Tr0 Try.prog 90 #[.pointer (some ⟨i.a, 0, none⟩), .int .i64 r, .int .i64 j] (ArenaP i A) (.int .i64 (A.wd (r - 1 + j.toNat))) (ArenaP i A) := by
  intro F w h
  have hwc := word_tr i A p r j hp hr htk h0 hj hw F w h
  generalize r - 1 + j.toNat = o at *
  have Hwc := Lib.hid hwc
  clear hwc
  go_enter Try.func90, Try.ntmps90
  go_wp2_with fail
  refine Hwc.out.mono ?_
  rintro e w1 ⟨rfl, h1⟩
  obtain ⟨hn, h2⟩ := St.ar.1 h1.mul1
  have h3 : St (pts i.wb (wordsObj A) * (pts i.a (arObj i.pb i.wb i.tb A.np A.free) * (pts i.pb (pagesObj A) * (SetP i.tb (32 * A.np + 1) A.tk * 1)))) F w1 := h2.to (by simp only [SP.mul_assoc, SP.mul_left_comm, SP.mul_comm])
  have c1 := words_at h3.at hw
  clear h2 h3 hn h
  go_wp2
  go_ret
  exact ⟨rfl, h1⟩

/-- Set: it is another one. -/
theorem Set_tr (i : ArId) (A : Ar) (p r : Nat) (j x : Int) (hp : p < A.np) (hr : p * 32 + 1 ≤ r ∧ r ≤ p * 32 + 32) (htk : A.tk r = true) (h0 : 0 ≤ j) (hj : j < words (A.cls p)) (hw : r - 1 + j.toNat < 32 * A.np) :
    Tr0 Try.prog 93 #[.pointer (some ⟨i.a, 0, none⟩), .int .i64 r, .int .i64 j, .int .i64 x] (ArenaP i A) (.bool true) (ArenaP i { A with wd := upd A.wd (r - 1 + j.toNat) x }) := by
  intro F w h
  have hwc := word_tr i A p r j hp hr htk h0 hj hw F w h
  generalize r - 1 + j.toNat = o at *
  have Hwc := Lib.hid hwc
  clear hwc
  go_enter Try.func93, Try.ntmps93
  go_wp2_with fail
  refine Hwc.out.mono ?_
  rintro e w1 ⟨rfl, h1⟩
  obtain ⟨hn, h2⟩ := St.ar.1 h1.mul1
  have h3 : St (pts i.wb (wordsObj A) * (pts i.a (arObj i.pb i.wb i.tb A.np A.free) * (pts i.pb (pagesObj A) * (SetP i.tb (32 * A.np + 1) A.tk * 1)))) F w1 := h2.to (by simp only [SP.mul_assoc, SP.mul_left_comm, SP.mul_comm])
  have c1 := words_at h3.at hw
  have f1 : w1.frozen? ⟨i.wb, o, none⟩ = false := frozen_of h3.at
  have h4 := h3.setWd (j := o) (v := x)
  clear h2 h3 h
  have h5 : St (pts i.a (arObj i.pb i.wb i.tb A.np A.free) * (pts i.pb (pagesObj A) * (pts i.wb (wordsObj { A with wd := upd A.wd o x }) * (SetP i.tb (32 * A.np + 1) A.tk * 1)))) F _ := h4.to (by simp only [SP.mul_assoc, SP.mul_left_comm, SP.mul_comm])
  have Hn := Lib.hid hn
  clear h4 h1 hn
  go_wp2
  go_ret
  exact ⟨rfl, St.unmul1 (St.ar.2 ⟨Hn.out, h5⟩)⟩
end Go.Proofs.Ytknmlfolbapmpaa
