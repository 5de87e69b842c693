import Derived.Test.YtknmlfolbapmpaaArena4
namespace Go.Proofs.Ytknmlfolbapmpaa
open Go Go.RowKit

theorem St.setCnt {i : ArId} {A : Ar} {p v : Nat} {R : SP} {F : Fr} {w : World} (h : St (pts i.pb (pagesObj A) * R) F w) :
    St (pts i.pb (pagesObj { A with cnt := upd A.cnt p v }) * R) F (w.setCell ⟨i.pb, p * 2 + 1, none⟩ (.int .i64 (v : Int))) := by
  have h1 := h.set (off := p * 2 + 1) (v := .int .i64 (v : Int))
  rw [row_set] at h1
  have e : (row (2 * A.np) fun k => if k = p * 2 + 1 then Value.int .i64 (v : Int) else .int .i64 (if k % 2 = 0 then A.cls (k / 2) else (A.cnt (k / 2) : Int))) =
      row (2 * A.np) fun k => .int .i64 (if k % 2 = 0 then A.cls (k / 2) else ((upd A.cnt p v (k / 2) : Nat) : Int)) := row_congr fun k hk => by
    by_cases e : k = p * 2 + 1
    · subst e
      rw [if_pos rfl, if_neg (by omega), show (p * 2 + 1) / 2 = p by omega, upd_same]
    · rw [if_neg e]
      by_cases h2 : k % 2 = 0
      · rw [if_pos h2, if_pos h2]
      · rw [if_neg h2, if_neg h2, upd_other _ _ (by omega)]
  rw [e] at h1
  exact h1
theorem St.setCls {i : ArId} {A : Ar} {p : Nat} {v : Int} {R : SP} {F : Fr} {w : World} (h : St (pts i.pb (pagesObj A) * R) F w) :
    St (pts i.pb (pagesObj { A with cls := upd A.cls p v }) * R) F (w.setCell ⟨i.pb, p * 2, none⟩ (.int .i64 v)) := by
  have h1 := h.set (off := p * 2) (v := .int .i64 v)
  rw [row_set] at h1
  have e : (row (2 * A.np) fun k => if k = p * 2 then Value.int .i64 v else .int .i64 (if k % 2 = 0 then A.cls (k / 2) else (A.cnt (k / 2) : Int))) =
      row (2 * A.np) fun k => .int .i64 (if k % 2 = 0 then upd A.cls p v (k / 2) else (A.cnt (k / 2) : Int)) := row_congr fun k hk => by
    by_cases e : k = p * 2
    · subst e
      rw [if_pos rfl, if_pos (by omega), show (p * 2) / 2 = p by omega, upd_same]
    · rw [if_neg e]
      by_cases h2 : k % 2 = 0
      · rw [if_pos h2, if_pos h2, upd_other _ _ (by omega)]
      · rw [if_neg h2, if_neg h2]
  rw [e] at h1
  exact h1

theorem St.setRow {g : Nat} {E : TypeId} {cur cs : Array Value} {R : SP} {F : Fr} {w : World} (h : St (pts g (.cells cur E (0, 0)) * R) F w) : St (pts g (.cells cs E (0, 0)) * R) F (w.setRow g cs) :=
  h.turn ⟨rfl, rfl, rfl, by simp, fun k _ hk => setRow_other w g k _ (fun e => hk (by rw [e]))⟩ (setRow_heap w g cur cs E (0, 0) h.at)
theorem words_clear (A : Ar) (o n : Nat) : (row (32 * A.np) fun k => if o ≤ k ∧ k < o + n then Value.int .i64 0 else .int .i64 (A.wd k)) =
    row (32 * A.np) fun k => .int .i64 (if o ≤ k ∧ k < o + n then 0 else A.wd k) := row_congr fun k _ => by split <;> rfl

theorem upd_upd {α : Type} (S : Nat → α) (i : Nat) (a b : α) : upd (upd S i a) i b = upd S i b := by funext k; by_cases h : k = i <;> simp [upd, h]
theorem ref0_any (p : Nat) (c : Int) (hp : p < 64) (h0 : 0 ≤ c) (h3 : c < 3) (w : World) :
    Calls Try.prog 88 #[.int .i64 p, .int .i64 c, .int .i64 0] w fun e w' => e = .returned (.int .i64 (rf p c 0)) ∧ w = w' :=
  ref_any p 0 c hp h0 h3 (by rcases wN_cases h0 h3 with ⟨_, _, e, _⟩ | ⟨_, _, e, _⟩ | ⟨_, _, e, _⟩ <;> omega) w
/-- A page and a cell. -/
structure PK where
  p : Nat
  k : Nat

theorem info_int : (Try.prog.info? 3).map (fun i => (i.zero, i.size, i.bytes)) = some (some (.int .i64 0), 1, 8) := by kernel_rfl

set_option maxRecDepth 100000 in
set_option maxHeartbeats 1000000 in
/-- Take: there is room. -/
theorem take_yes (i : ArId) (A : Ar) (hA : A.WF) (c : Int) (h0 : 0 ≤ c) (h3 : c < 3) (hr : ¬ A.noRoom c) :
    Tr Try.prog 62 #[.pointer (some ⟨i.a, 0, none⟩), .int .i64 c] (ArenaP i A) (fun x : PK => .tuple #[.int .i64 (rf x.p c x.k), .bool true]) (fun x => SP.wh (A.takes c x.p x.k) (ArenaP i (A.took c x.p x.k))) := by
  intro F w h
  have hrm := room_yes i A hA c h0 h3 hr F w h
  have hg := gap_tr i A hA c h0 h3 F
  have Hg := Lib.hid hg
  clear hg
  have Hr := Lib.hid hr
  clear hr
  have HA := Lib.hid hA
  clear hA
  go_enter Try.func62, Try.ntmps62
  go_wp2_with fail
  refine hrm.mono ?_
  clear hrm
  rintro e w1 ⟨rfl, h1⟩
  go_wp2_with fail
  refine (Hg.out _ h1).mono ?_
  rintro e w2 ⟨x, rfl, hx1⟩
  clear h h1
  obtain ⟨hx, h2⟩ := St.wh.1 hx1
  clear hx1
  obtain ⟨hn, h4⟩ := St.ar.1 h2.mul1
  have c0 : w2.cell? ⟨i.a, 0, none⟩ = some (.slice (some ⟨i.pb, 0, none⟩) A.np A.np) := by rw [cell_of h4.at]; rfl
  have c3 : w2.cell? ⟨i.a, 3, none⟩ = some (.int .i64 A.free) := by rw [cell_of h4.at]; rfl
  have f3 : w2.frozen? ⟨i.a, 3, none⟩ = false := frozen_of h4.at
  have hn1 : A.np ≤ 64 := hn.1
  cases x with
  | some pk =>
    obtain ⟨p, k⟩ := pk
    simp only [gapV]
    have Hx := Lib.hid hx
    clear hx
    have hk : k < cN c := Hx.out.2.2.2.2.1
    have hp : p < A.np := Hx.out.1
    have hs := h4
    clear h4
    have hcb : A.cnt p ≤ 16 := by
      have e := HA.out.cnt p hp
      have l := cntF_le (fun k => A.tk (rf p (A.cls p) k)) (cN (A.cls p))
      have l2 : cN (A.cls p) ≤ 16 := by rw [Hx.out.2.1]; rcases wN_cases h0 h3 with ⟨_, _, e, _⟩ | ⟨_, _, e, _⟩ | ⟨_, _, e, _⟩ <;> omega
      omega
    go_wp2_with fail
    refine (ref_any p k c (by omega) h0 h3 hk _).mono ?_
    rintro e w' ⟨rfl, rfl⟩
    have hs5 : St (SetP i.tb (32 * A.np + 1) A.tk * (pts i.a (arObj i.pb i.wb i.tb A.np A.free) * (pts i.pb (pagesObj A) * (pts i.wb (wordsObj A) * 1)))) F _ := hs.to (by simp only [SP.mul_assoc, SP.mul_left_comm, SP.mul_comm])
    have hrf := rf_lt (p := p) h0 h3 hk
    have c2 : (w2).cell? ⟨i.a, 2, none⟩ = some (.pointer (some ⟨i.tb, 0, none⟩)) := by rw [cell_of hs.at]; rfl
    go_wp2_with fail
    refine ((put_in i.tb _ A.tk (rf p c k) (by omega) (by omega)).use hs5).mono ?_
    rintro e w4 ⟨rfl, h6⟩
    rw [Int.toNat_natCast] at h6
    clear hs hs5 c2
    have h7 : St (pts i.pb (pagesObj A) * (pts i.a (arObj i.pb i.wb i.tb A.np A.free) * (SetP i.tb (32 * A.np + 1) (upd A.tk (rf p c k) true) * (pts i.wb (wordsObj A) * 1)))) F w4 := h6.to (by simp only [SP.mul_assoc, SP.mul_left_comm, SP.mul_comm])
    have d0 : w4.cell? ⟨i.a, 0, none⟩ = some (.slice (some ⟨i.pb, 0, none⟩) A.np A.np) := by have h8 := h7; rw [SP.mul_left_comm] at h8; rw [cell_of h8.at]; rfl
    have d1 : w4.cell? ⟨i.pb, p * 2 + 1, none⟩ = some (.int .i64 ((A.cnt p : Nat) : Int)) := page_cnt h7.at hp
    have g1 : w4.frozen? ⟨i.pb, p * 2 + 1, none⟩ = false := frozen_of h7.at
    have h9 := h7.setCnt (p := p) (v := A.cnt p + 1)
    rw [Int.natCast_add, Int.natCast_one] at h9
    clear h6
    generalize hr0 : rf p c k = r at *
    have hwl : (words c) = ((wN c : Nat) : Int) ∧ 0 < wN c ∧ wN c ≤ 8 := by
      rcases wN_cases h0 h3 with ⟨_, e1, e2, e3, _⟩ | ⟨_, e1, e2, e3, _⟩ | ⟨_, e1, e2, e3, _⟩ <;> rw [e1, e3] <;> omega
    obtain ⟨hwl1, hwl2, hwl3⟩ := hwl
    have Hwl := Lib.hid hwl1
    clear hwl1
    have hrw : r - 1 + wN c ≤ 32 * A.np := by
      rw [← hr0]
      unfold rf
      rcases wN_cases h0 h3 with ⟨_, e1, e2, e3, _⟩ | ⟨_, e1, e2, e3, _⟩ | ⟨_, e1, e2, e3, _⟩ <;> rw [e2] at hk <;> rw [e1] <;> omega
    obtain ⟨r', rfl⟩ : ∃ r', r = r' + 1 := ⟨r - 1, by omega⟩
    rw [Nat.add_sub_cancel] at hrw
    have h10 : St (pts i.wb (wordsObj A) * (pts i.pb (pagesObj { A with cnt := upd A.cnt p (A.cnt p + 1) }) * (pts i.a (arObj i.pb i.wb i.tb A.np A.free) * (SetP i.tb (32 * A.np + 1) (upd A.tk (r' + 1) true) * 1)))) F _ := h9.to (by simp only [SP.mul_assoc, SP.mul_left_comm, SP.mul_comm])
    have hwr := h10.at
    have c1 : (w4.setCell ⟨i.pb, p * 2 + 1, none⟩ (.int .i64 ((A.cnt p : Int) + 1))).cell? ⟨i.a, 1, none⟩ = some (.slice (some ⟨i.wb, 0, none⟩) (32 * A.np) (32 * A.np)) := by have h8 := h9; rw [SP.mul_left_comm] at h8; rw [cell_of h8.at]; rfl
    go_wp2_with fail
    generalize w4.setCell ⟨i.pb, p * 2 + 1, none⟩ (.int .i64 ((A.cnt p : Int) + 1)) = w5 at *
    clear d0 d1 g1 h7 h2
    obtain ⟨i0, hi, hz0, hz1, hz2⟩ := info_parts info_int
    have hclr := run_clear (P := Try.prog) w5.drew 103 0 3 i0 (.int .i64 0) Try.underlying103 hi hz0 rfl rfl i.wb r' (wN c) (32 * A.np - r') (32 * A.np) _ hwr hwl2 hrw
    rw [words_clear] at hclr
    have b3 : ¬ 32 * A.np = r' := by omega
    clear hi hz0 hz1 hz2
    have v1 : IntKind.i64.wrap (r' : Int) = r' := IntWalk.i64_in _ (by omega)
    have v2 : IntKind.i64.wrap ((r' : Int) + (wN c : Int)) = (r' : Int) + (wN c : Int) := IntWalk.i64_in _ (by omega)
    have b1 : (r' : Int) ≤ (r' : Int) + (wN c : Int) := by omega
    have b2 : (r' : Int) + (wN c : Int) ≤ ((32 * A.np : Nat) : Int) := by omega
    go_region_with (go_at_call 100; refine (words_any c _).mono ?_; rintro e w' ⟨rfl, rfl⟩; rw [Hwl.out])
    all_goals
      have h11 := (h10.drew.setRow (cs := row (32 * A.np) fun k => Value.int .i64 (if r' ≤ k ∧ k < r' + wN c then 0 else A.wd k)))
      clear h9 h10 hclr hwr c1
      go_wp2
      go_ret2
      refine ⟨⟨p, k⟩, by rw [hr0]; rfl, St.wh.2 ⟨.inl Hx.out, ?_⟩⟩
      have e : A.took c p k = { A with cnt := upd A.cnt p (A.cnt p + 1), tk := upd A.tk (r' + 1) true, wd := fun j => if r' ≤ j ∧ j < r' + wN c then 0 else A.wd j } := by
        unfold Ar.took
        rw [hr0, Nat.add_sub_cancel]
        rw [if_pos Hx.out.2.1, if_pos Hx.out.2.1]
        have ec : upd A.cls p c = A.cls := by conv => lhs; rw [← Hx.out.2.1]
                                              exact upd_self _ _
        rw [ec]
      rw [e]
      apply St.unmul1
      have h12 : St (pts i.wb (wordsObj { A with cnt := upd A.cnt p (A.cnt p + 1), tk := upd A.tk (r' + 1) true, wd := fun j => if r' ≤ j ∧ j < r' + wN c then 0 else A.wd j }) * (pts i.pb (pagesObj { A with cnt := upd A.cnt p (A.cnt p + 1), tk := upd A.tk (r' + 1) true, wd := fun j => if r' ≤ j ∧ j < r' + wN c then 0 else A.wd j }) * (pts i.a (arObj i.pb i.wb i.tb A.np A.free) * (SetP i.tb (32 * A.np + 1) (upd A.tk (r' + 1) true) * 1)))) F _ := h11
      have h13 : St (pts i.a (arObj i.pb i.wb i.tb A.np A.free) * (pts i.pb (pagesObj { A with cnt := upd A.cnt p (A.cnt p + 1), tk := upd A.tk (r' + 1) true, wd := fun j => if r' ≤ j ∧ j < r' + wN c then 0 else A.wd j }) * (pts i.wb (wordsObj { A with cnt := upd A.cnt p (A.cnt p + 1), tk := upd A.tk (r' + 1) true, wd := fun j => if r' ≤ j ∧ j < r' + wN c then 0 else A.wd j }) * (SetP i.tb (32 * A.np + 1) (upd A.tk (r' + 1) true) * 1)))) F _ := h12.to (by simp only [SP.mul_assoc, SP.mul_left_comm, SP.mul_comm])
      exact St.ar.2 ⟨hn, h13⟩
  | none =>
    simp only [gapV]
    have Hx := Lib.hid hx
    clear hx
    have hfree : 0 < A.free := by
      rcases Nat.eq_zero_or_pos A.free with e | e
      · exact absurd ⟨Hx.out, e⟩ Hr.out
      · exact e
    have hex : ∃ p0, p0 < A.np ∧ A.cls p0 < 0 := by
      refine Classical.byContradiction fun hno => ?_
      have hz := HA.out.free
      rw [cntF_zero (fun q hq => decide_eq_false fun hneg => hno ⟨q, hq, hneg⟩)] at hz
      omega
    obtain ⟨p0, hp0, hneg0⟩ := hex
    have hcl := h4
    rw [SP.mul_left_comm] at hcl
    have hcls : ∀ q, q < A.np → w2.cell? ⟨i.pb, q * 2, none⟩ = some (.int .i64 (A.cls q)) := fun q hq => page_cls hcl.at hq
    have Hcls := Lib.hid hcls
    have Hneg := Lib.hid hneg0
    clear hcls hneg0
    go_wp2_with fail
    go_loop [6] (fun v => ∃ q : Nat, q ≤ p0 ∧ v = .int .i64 q ∧ (∀ j, j < q → 0 ≤ A.cls j)) (fun v => p0 - (intOf v).toNat)
    case atStart => exact ⟨0, Nat.zero_le _, rfl, fun j hj => absurd hj (Nat.not_lt_zero _)⟩
    case round =>
      obtain ⟨p, hpp, rfl, hj⟩ := hrel
      have hp : p < A.np := by omega
      have hcp := Hcls.out p hp
      have Hj := Lib.hid hj
      clear hj
      by_cases hcl0 : 0 ≤ A.cls p
      · have hne : p ≠ p0 := fun e => by have := Hneg.out; rw [← e] at this; omega
        go_wp2
        go_round
        case rel => exact ⟨p + 1, by omega, by go_num, fun j hj => if e : j = p then by rw [e]; exact hcl0 else Hj.out j (by omega)⟩
        case measure => simp [intOf]; omega
      · have hneg : A.cls p < 0 := by omega
        have hnc : ¬ A.cls p = c := by omega
        have Hneg' := Lib.hid hneg
        have Hcl0 := Lib.hid hcl0
        have hk : 0 < cN c := by rcases wN_cases h0 h3 with ⟨_, _, e, _⟩ | ⟨_, _, e, _⟩ | ⟨_, _, e, _⟩ <;> omega
        have q1 := page_cnt hcl.at hp
        have z0 : w2.frozen? ⟨i.pb, p * 2, none⟩ = false := frozen_of hcl.at
        have s1 := hcl.setCls (p := p) (v := c)
        have q2 := page_cnt s1.at hp
        have z2 : (w2.setCell ⟨i.pb, p * 2, none⟩ (.int .i64 c)).frozen? ⟨i.pb, p * 2 + 1, none⟩ = false := frozen_of s1.at
        have s2 : St (pts i.pb (pagesObj { A with cls := upd A.cls p c, cnt := upd A.cnt p 0 }) * _) F ((w2.setCell ⟨i.pb, p * 2, none⟩ (.int .i64 c)).setCell ⟨i.pb, p * 2 + 1, none⟩ (.int .i64 0)) := s1.setCnt (p := p) (v := 0)
        rw [SP.mul_left_comm] at s2
        have q3 : ((w2.setCell ⟨i.pb, p * 2, none⟩ (.int .i64 c)).setCell ⟨i.pb, p * 2 + 1, none⟩ (.int .i64 0)).cell? ⟨i.a, 3, none⟩ = some (.int .i64 A.free) := by rw [cell_of (w := _) s2.at]; rfl
        have z3 : ((w2.setCell ⟨i.pb, p * 2, none⟩ (.int .i64 c)).setCell ⟨i.pb, p * 2 + 1, none⟩ (.int .i64 0)).frozen? ⟨i.a, 3, none⟩ = false := frozen_of (w := _) s2.at
        have q4 : ((w2.setCell ⟨i.pb, p * 2, none⟩ (.int .i64 c)).setCell ⟨i.pb, p * 2 + 1, none⟩ (.int .i64 0)).cell? ⟨i.a, 0, none⟩ = some (.slice (some ⟨i.pb, 0, none⟩) A.np A.np) := by rw [cell_of (w := _) s2.at]; rfl
        have efree : (A.free : Int) - 1 = ((A.free - 1 : Nat) : Int) := by omega
        have hs : St (pts i.a (arObj i.pb i.wb i.tb A.np ((A.free - 1 : Nat) : Int)) * (pts i.pb (pagesObj { A with cls := upd A.cls p c, cnt := upd A.cnt p 0 }) * (pts i.wb (wordsObj A) * (SetP i.tb (32 * A.np + 1) A.tk * 1)))) F (((w2.setCell ⟨i.pb, p * 2, none⟩ (.int .i64 c)).setCell ⟨i.pb, p * 2 + 1, none⟩ (.int .i64 0)).setCell ⟨i.a, 3, none⟩ (.int .i64 ((A.free : Int) - 1))) := by
          have s3 := s2.set (off := 3) (v := .int .i64 ((A.free : Int) - 1))
          rw [efree] at s3 ⊢
          exact s3
        have Hfr := Lib.hid efree
        clear efree s1 s2 h4 hcl hneg hcl0
        have hnc' := hnc
        have Hnc := Lib.hid hnc
        clear hnc hnc'
        go_wp2_with fail
        refine (ref0_any p c (by omega) h0 h3 _).mono ?_
        rintro e w' ⟨rfl, rfl⟩
        clear q1 q2 q3 q4 z0 z2 z3
        have hs5 : St (SetP i.tb (32 * A.np + 1) A.tk * (pts i.a (arObj i.pb i.wb i.tb A.np ((A.free - 1 : Nat) : Int)) * (pts i.pb (pagesObj { A with cls := upd A.cls p c, cnt := upd A.cnt p 0 }) * (pts i.wb (wordsObj A) * 1)))) F _ := hs.to (by simp only [SP.mul_assoc, SP.mul_left_comm, SP.mul_comm])
        have hrf := rf_lt (p := p) (k := 0) h0 h3 hk
        have c2 : (((w2.setCell ⟨i.pb, p * 2, none⟩ (.int .i64 c)).setCell ⟨i.pb, p * 2 + 1, none⟩ (.int .i64 0)).setCell ⟨i.a, 3, none⟩ (.int .i64 ((A.free : Int) - 1))).cell? ⟨i.a, 2, none⟩ = some (.pointer (some ⟨i.tb, 0, none⟩)) := by rw [cell_of hs.at]; rfl
        go_wp2_with fail
        refine ((put_in i.tb _ A.tk (rf p c 0) (by omega) (by omega)).use hs5).mono ?_
        rintro e w4 ⟨rfl, h6⟩
        rw [Int.toNat_natCast] at h6
        clear hs hs5 c2
        have h7 : St (pts i.pb (pagesObj { A with cls := upd A.cls p c, cnt := upd A.cnt p 0 }) * (pts i.a (arObj i.pb i.wb i.tb A.np ((A.free - 1 : Nat) : Int)) * (SetP i.tb (32 * A.np + 1) (upd A.tk (rf p c 0) true) * (pts i.wb (wordsObj A) * 1)))) F w4 := h6.to (by simp only [SP.mul_assoc, SP.mul_left_comm, SP.mul_comm])
        have d0 : w4.cell? ⟨i.a, 0, none⟩ = some (.slice (some ⟨i.pb, 0, none⟩) A.np A.np) := by have h8 := h7; rw [SP.mul_left_comm] at h8; rw [cell_of h8.at]; rfl
        have d1 : w4.cell? ⟨i.pb, p * 2 + 1, none⟩ = some (.int .i64 0) := by
          have e1 := page_cnt (A := { A with cls := upd A.cls p c, cnt := upd A.cnt p 0 }) (p := p) h7.at hp
          simpa [upd_same] using e1
        have g1 : w4.frozen? ⟨i.pb, p * 2 + 1, none⟩ = false := frozen_of h7.at
        have h9 : St (pts i.pb (pagesObj { A with cls := upd A.cls p c, cnt := upd (upd A.cnt p 0) p 1 }) * (pts i.a (arObj i.pb i.wb i.tb A.np ((A.free - 1 : Nat) : Int)) * (SetP i.tb (32 * A.np + 1) (upd A.tk (rf p c 0) true) * (pts i.wb (wordsObj A) * 1)))) F (w4.setCell ⟨i.pb, p * 2 + 1, none⟩ (.int .i64 1)) := h7.setCnt (p := p) (v := 1)
        clear h6
        generalize hr0 : rf p c 0 = r at *
        have hwl : (words c) = ((wN c : Nat) : Int) ∧ 0 < wN c ∧ wN c ≤ 8 := by
          rcases wN_cases h0 h3 with ⟨_, e1, e2, e3, _⟩ | ⟨_, e1, e2, e3, _⟩ | ⟨_, e1, e2, e3, _⟩ <;> rw [e1, e3] <;> omega
        obtain ⟨hwl1, hwl2, hwl3⟩ := hwl
        have Hwl := Lib.hid hwl1
        clear hwl1
        have hrw : r - 1 + wN c ≤ 32 * A.np := by
          rw [← hr0]
          unfold rf
          rcases wN_cases h0 h3 with ⟨_, e1, e2, e3, _⟩ | ⟨_, e1, e2, e3, _⟩ | ⟨_, e1, e2, e3, _⟩ <;> rw [e2] at hk <;> rw [e1] <;> omega
        obtain ⟨r', rfl⟩ : ∃ r', r = r' + 1 := ⟨r - 1, by omega⟩
        rw [Nat.add_sub_cancel] at hrw
        have h10 : St (pts i.wb (wordsObj A) * (pts i.pb (pagesObj { A with cls := upd A.cls p c, cnt := upd (upd A.cnt p 0) p 1 }) * (pts i.a (arObj i.pb i.wb i.tb A.np ((A.free - 1 : Nat) : Int)) * (SetP i.tb (32 * A.np + 1) (upd A.tk (r' + 1) true) * 1)))) F _ := h9.to (by simp only [SP.mul_assoc, SP.mul_left_comm, SP.mul_comm])
        have hwr := h10.at
        have c1 : (w4.setCell ⟨i.pb, p * 2 + 1, none⟩ (.int .i64 1)).cell? ⟨i.a, 1, none⟩ = some (.slice (some ⟨i.wb, 0, none⟩) (32 * A.np) (32 * A.np)) := by have h8 := h9; rw [SP.mul_left_comm] at h8; rw [cell_of h8.at]; rfl
        go_wp2_with fail
        generalize w4.setCell ⟨i.pb, p * 2 + 1, none⟩ (.int .i64 1) = w5 at *
        clear d0 d1 g1 h7 h2
        obtain ⟨i0, hi, hz0, hz1, hz2⟩ := info_parts info_int
        have hclr := run_clear (P := Try.prog) w5.drew 103 0 3 i0 (.int .i64 0) Try.underlying103 hi hz0 rfl rfl i.wb r' (wN c) (32 * A.np - r') (32 * A.np) _ hwr hwl2 hrw
        rw [words_clear] at hclr
        have b3 : ¬ 32 * A.np = r' := by omega
        clear hi hz0 hz1 hz2
        have v1 : IntKind.i64.wrap (r' : Int) = r' := IntWalk.i64_in _ (by omega)
        have v2 : IntKind.i64.wrap ((r' : Int) + (wN c : Int)) = (r' : Int) + (wN c : Int) := IntWalk.i64_in _ (by omega)
        have b1 : (r' : Int) ≤ (r' : Int) + (wN c : Int) := by omega
        have b2 : (r' : Int) + (wN c : Int) ≤ ((32 * A.np : Nat) : Int) := by omega
        go_region_with (go_at_call 100; refine (words_any c _).mono ?_; rintro e w' ⟨rfl, rfl⟩; rw [Hwl.out])
        all_goals
          have h11 := (h10.drew.setRow (cs := row (32 * A.np) fun k => Value.int .i64 (if r' ≤ k ∧ k < r' + wN c then 0 else A.wd k)))
          clear h9 h10 hclr hwr c1
          go_wp2
          go_ret2
          refine ⟨⟨p, 0⟩, by rw [hr0]; rfl, St.wh.2 ⟨.inr ⟨Hx.out, hp, Hneg'.out, Hj.out, rfl⟩, ?_⟩⟩
          have e : A.took c p 0 = { A with free := A.free - 1, cls := upd A.cls p c, cnt := upd (upd A.cnt p 0) p 1, tk := upd A.tk (r' + 1) true, wd := fun j => if r' ≤ j ∧ j < r' + wN c then 0 else A.wd j } := by
            unfold Ar.took
            rw [hr0, Nat.add_sub_cancel]
            rw [if_neg Hnc.out, if_neg Hnc.out, upd_upd]
          rw [e]
          apply St.unmul1
          have h12 : St (pts i.wb (wordsObj { A with free := A.free - 1, cls := upd A.cls p c, cnt := upd (upd A.cnt p 0) p 1, tk := upd A.tk (r' + 1) true, wd := fun j => if r' ≤ j ∧ j < r' + wN c then 0 else A.wd j }) * (pts i.pb (pagesObj { A with free := A.free - 1, cls := upd A.cls p c, cnt := upd (upd A.cnt p 0) p 1, tk := upd A.tk (r' + 1) true, wd := fun j => if r' ≤ j ∧ j < r' + wN c then 0 else A.wd j }) * (pts i.a (arObj i.pb i.wb i.tb A.np ((A.free - 1 : Nat) : Int)) * (SetP i.tb (32 * A.np + 1) (upd A.tk (r' + 1) true) * 1)))) F _ := h11
          have h13 : St (pts i.a (arObj i.pb i.wb i.tb A.np ((A.free - 1 : Nat) : Int)) * (pts i.pb (pagesObj { A with free := A.free - 1, cls := upd A.cls p c, cnt := upd (upd A.cnt p 0) p 1, tk := upd A.tk (r' + 1) true, wd := fun j => if r' ≤ j ∧ j < r' + wN c then 0 else A.wd j }) * (pts i.wb (wordsObj { A with free := A.free - 1, cls := upd A.cls p c, cnt := upd (upd A.cnt p 0) p 1, tk := upd A.tk (r' + 1) true, wd := fun j => if r' ≤ j ∧ j < r' + wN c then 0 else A.wd j }) * (SetP i.tb (32 * A.np + 1) (upd A.tk (r' + 1) true) * 1)))) F _ := h12.to (by simp only [SP.mul_assoc, SP.mul_left_comm, SP.mul_comm])
          exact St.ar.2 ⟨⟨hn.1, by have := hn.2; show A.free - 1 ≤ A.np; omega⟩, h13⟩

end Go.Proofs.Ytknmlfolbapmpaa
