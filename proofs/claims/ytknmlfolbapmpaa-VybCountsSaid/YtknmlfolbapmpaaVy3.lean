import Derived.Test.YtknmlfolbapmpaaVy2
import Derived.Deep.LoopGhost
namespace Go.Proofs.Ytknmlfolbapmpaa
open Go Go.RowKit
attribute [local go_sem] Oper.semAt_some

/-- A barrier of which the log's value is known. -/
def VyQ (i : VyId) (V : Vy) (lv : Value) : SP := pts i.b (vyObj i lv V.over) * (pts i.cb (cntObj i.N V.cnt) * RowP 36 lv (V.log.map refV))
theorem St.vyq {i : VyId} {V : Vy} {R : SP} {F : Fr} {w : World} : St (VyP i V * R) F w ↔ ∃ lv : Value, VyIn i V ∧ St (VyQ i V lv * R) F w := by
  rw [St.vy]
  unfold VyQ
  simp only [SP.mul_assoc]
theorem St.vyF {i : VyId} {V : Vy} {lv : Value} {R : SP} {F : Fr} {w : World} (h : St (VyQ i V lv * R) F w) :
    w.cell? ⟨i.b, 0, none⟩ = some (.pointer (some ⟨i.m, 0, none⟩)) ∧ w.cell? ⟨i.b, 1, none⟩ = some (.slice (some ⟨i.cb, 0, none⟩) i.N i.N) ∧ w.cell? ⟨i.b, 2, none⟩ = some lv ∧ w.cell? ⟨i.b, 3, none⟩ = some (.int .i64 i.room) ∧ w.cell? ⟨i.b, 4, none⟩ = some (.bool V.over) ∧ ∀ r, r < i.N → w.cell? ⟨i.cb, r, none⟩ = some (.int .u8 (V.cnt r)) := by
  unfold VyQ at h
  simp only [SP.mul_assoc] at h
  obtain ⟨d0, d1, d2, d3, d4, d5⟩ := h.vyB
  exact ⟨d0, d1, d2, d3, d4, fun r hr => ((h.to (SP.mul_left_comm _ _ _)).vyC hr).1⟩
/-- Count, of known cells. -/
theorem vyCount_any (i : VyId) (c : Nat → Nat) (r : Nat) (hr : r < i.N) (hcr : c r ≤ 3) (w : World) (c1 : w.cell? ⟨i.b, 1, none⟩ = some (.slice (some ⟨i.cb, 0, none⟩) i.N i.N)) (cc : w.cell? ⟨i.cb, r, none⟩ = some (.int .u8 (c r))) :
    Calls Try.prog 53 #[.pointer (some ⟨i.b, 0, none⟩), .int .i64 r] w fun e w' => e = .returned (.int .i64 (c r)) ∧ w' = w := by
  have h0 : ¬ (r : Int) < 0 := by omega
  have hn : (r : Int) < i.N := by omega
  have hn' : ¬ (i.N : Int) ≤ r := by omega
  have hw : IntKind.i64.wrap ((c r : Nat) : Int) = c r := by rw [IntKind.wrap_i64]; omega
  go_enter Try.func53, Try.ntmps53
  go_wp2_with fail
  go_ret
  exact ⟨rfl, rfl⟩
/-- What a remark shades. -/
def vyRs (A : Ar) (N : Nat) (V : Vy) : List Nat := if V.over then (List.range N).filter (fun r => A.tk r && decide (0 < V.cnt r)) else V.log.filter (fun r => decide (0 < V.cnt r))
theorem filter_snoc {p : Nat → Bool} {l : List Nat} {x : Nat} : (l ++ [x]).filter p = if p x then l.filter p ++ [x] else l.filter p := by
  rw [List.filter_append]
  cases h : p x <;> simp [h]
set_option maxRecDepth 100000 in
set_option maxHeartbeats 4000000 in
/-- Remark. -/
theorem vyRemark_tr (i : VyId) (V : Vy) (k : MkId) (M : Mk) (a : ArId) (A : Ar) (hm : i.m = k.m) (hka : k.a = a.a) (hiN : i.N = 32 * A.np + 1) (hkN : k.N = 32 * A.np + 1) (hlog : ∀ r ∈ V.log, r < i.N) :
    Tr0 Try.prog 52 #[.pointer (some ⟨i.b, 0, none⟩)] (VyP i V * (MarkP k M * ArenaP a A)) (.tuple #[]) (VyP i V * (MarkP k (M.shades k.room (vyRs A (32 * A.np + 1) V)) * ArenaP a A)) := by
  intro F w h
  obtain ⟨lv, hb, h1⟩ := St.vyq.1 h
  have h2 : St (VyQ i V lv * (boxP w.heap.size (.pointer (some ⟨i.b, 0, none⟩)) 65 * (MarkP k M * ArenaP a A))) F (w.alloc (.cells #[.pointer (some ⟨i.b, 0, none⟩)] 65)) := (h1.boxNew _ _).to (SP.mul_left_comm _ _ _)
  have cb := (h2.to (SP.mul_left_comm _ _ _)).box
  obtain ⟨d0, d1, d2, d3, d4, d5⟩ := h2.vyF
  have Hb := Lib.hid hb
  have H2 := Lib.hid h2
  have Hlog := Lib.hid hlog
  clear h h1 h2 hb d1 d3 d5 hlog
  have HiN := Lib.hid hiN
  have HkN := Lib.hid hkN
  have Hm := Lib.hid hm
  have Hka := Lib.hid hka
  clear hiN hkN hm hka
  generalize hw1 : w.alloc (.cells #[.pointer (some ⟨i.b, 0, none⟩)] 65) = w1 at *
  generalize hbb : w.heap.size = bb at *
  cases hov : V.over
  · rw [hov] at d4
    have Hov := Lib.hid hov
    clear hov
    obtain ⟨o, cap, hv⟩ := (H2.out.to (Q := RowP 36 lv (V.log.map refV) * (pts i.b (vyObj i lv V.over) * (pts i.cb (cntObj i.N V.cnt) * (boxP bb (.pointer (some ⟨i.b, 0, none⟩)) 65 * (MarkP k M * ArenaP a A))))) (by unfold VyQ; simp only [SP.mul_assoc, SP.mul_left_comm, SP.mul_comm])).rowSlice
    rw [List.length_map] at hv
    subst hv
    refine calls_of_marks Try.func52 rfl ?_
    simp only [Try.ntmps52, List.size_toArray, List.length_cons, List.length_nil, Nat.reduceAdd, Nat.reduceSub, Array.replicate_succ, Array.replicate_zero, List.push_toArray, List.append_toArray, List.nil_append, List.cons_append]
    go_wp2_with fail
    obtain ⟨sh, hsh⟩ : ∃ sh : Nat → Mk, sh = fun n => M.shades k.room ((V.log.take n).filter (fun r => decide (0 < V.cnt r))) := ⟨_, rfl⟩
    have Hsh := Lib.hid hsh
    clear hsh cb d0 d2 d4
    go_loopg [31] V.log.length (fun g v wr => ∃ (n : Nat), n ≤ V.log.length ∧ g = V.log.length - n ∧ v = .int .i64 n ∧ St (VyQ i V (.slice o V.log.length cap) * (boxP bb (.pointer (some ⟨i.b, 0, none⟩)) 65 * (MarkP k (sh n) * ArenaP a A))) F wr)
    case atStart => exact ⟨0, Nat.zero_le _, rfl, rfl, by rw [Hsh.out]; exact H2.out⟩
    case round =>
      clear H2
      obtain ⟨n, hn, hg, rfl, hst⟩ := hrel
      have Hg := Lib.hid hg
      clear hg
      by_cases hlt : n < V.log.length
      · have hlt' : (n : Int) < V.log.length := by omega
        have hlen : V.log.length ≤ 100000 := by have := Hb.out.1; omega
        have hw3 : IntKind.i64.wrap ((n : Int) + 1) = ((n + 1 : Nat) : Int) := by rw [IntKind.wrap_i64]; omega
        have hn0 : 0 ≤ (n : Int) := by omega
        obtain ⟨r, hr⟩ : ∃ r, V.log[n]? = some r := ⟨V.log[n], by simp [hlt]⟩
        have hri := Hlog.out r (List.mem_iff_getElem?.2 ⟨_, hr⟩)
        have Hri := Lib.hid hri
        have Htake : Hid (V.log.take (n + 1) = V.log.take n ++ [r]) := Lib.hid (by rw [List.take_add_one, hr]; rfl)
        obtain ⟨g, eg, crx⟩ := (hst.to (Q := RowP 36 (.slice o V.log.length cap) (V.log.map refV) * (pts i.b (vyObj i (.slice o V.log.length cap) V.over) * (pts i.cb (cntObj i.N V.cnt) * (boxP bb (.pointer (some ⟨i.b, 0, none⟩)) 65 * (MarkP k (sh n) * ArenaP a A))))) (by unfold VyQ; simp only [SP.mul_assoc, SP.mul_left_comm, SP.mul_comm])).refAt hr
        subst eg
        have cb := (hst.to (SP.mul_left_comm _ _ _)).box
        obtain ⟨d0, d1, d2, d3, d4, d5⟩ := hst.vyF
        have d6 := d5 r hri
        have Hst := Lib.hid hst
        clear hst hr d2 d3 d4 d5 hri
        go_wp2_with fail
        refine (vyCount_any i V.cnt r Hri.out (Hb.out.2 r) _ d1 d6).mono ?_
        rintro e w2 ⟨rfl, rfl⟩
        clear d1 d6 crx
        by_cases hc : 0 < V.cnt r
        · have hc' : (0 : Int) < V.cnt r := by omega
          have hsh2 := (shade_tr k (sh n) r (by rw [HkN.out, ← HiN.out]; exact Hri.out)).use (Hst.out.to (Q := MarkP k (sh n) * (VyQ i V (.slice (some ⟨g, 0, none⟩) V.log.length cap) * (boxP bb (.pointer (some ⟨i.b, 0, none⟩)) 65 * ArenaP a A))) (by simp only [SP.mul_assoc, SP.mul_left_comm, SP.mul_comm]))
          rw [show ({ block := k.m, off := 0, spot := none } : Addr) = { block := i.m, off := 0, spot := none } by rw [Hm.out]] at hsh2
          have Hsh2 := Lib.hid hsh2
          have Hnx : Hid ((sh n).shade k.room r = sh (n + 1)) := Lib.hid (by rw [Hsh.out]; dsimp only; rw [Htake.out, filter_snoc, if_pos (by simp [hc]), Mk.shades_snoc])
          clear hc hsh2
          go_wp2_with fail
          refine Hsh2.out.mono ?_
          rintro e w2 ⟨rfl, h5⟩
          rw [Hnx.out] at h5
          have H5 := Lib.hid h5
          clear h5
          go_wp2_with fail
          go_roundg (V.log.length - (n + 1))
          case measure => have := Hg.out; omega
          case rel => exact ⟨n + 1, by omega, rfl, by go_num, H5.out.to (by simp only [SP.mul_assoc, SP.mul_left_comm, SP.mul_comm])⟩
        · have hc' : ¬ (0 : Int) < V.cnt r := by omega
          have Hnx : Hid (sh n = sh (n + 1)) := Lib.hid (by rw [Hsh.out]; dsimp only; rw [Htake.out, filter_snoc, if_neg (by simp; omega)])
          clear hc
          go_wp2_with fail
          go_roundg (V.log.length - (n + 1))
          case measure => have := Hg.out; omega
          case rel => exact ⟨n + 1, by omega, rfl, by go_num, by rw [← Hnx.out]; exact Hst.out⟩
      · obtain rfl : n = V.log.length := by omega
        have h9 : St (VyP i V * (MarkP k (M.shades k.room (vyRs A (32 * A.np + 1) V)) * ArenaP a A)) F wr := by
          have h10 : St (VyQ i V (.slice o V.log.length cap) * (MarkP k (sh V.log.length) * ArenaP a A)) F wr :=
            (hst.to (Q := VyQ i V (.slice o V.log.length cap) * (MarkP k (sh V.log.length) * ArenaP a A) * boxP bb (.pointer (some ⟨i.b, 0, none⟩)) 65) (by simp only [SP.mul_assoc, SP.mul_left_comm, SP.mul_comm])).drop
          rw [Hsh.out] at h10
          dsimp only at h10
          rw [List.take_length] at h10
          unfold vyRs
          rw [Hov.out]
          exact St.vyq.2 ⟨_, Hb.out, h10⟩
        have H9 := Lib.hid h9
        clear h9 hst
        go_wp2_with fail
        refine leaves_marks (F := F) (Q := VyP i V * (MarkP k (M.shades k.room (vyRs A (32 * A.np + 1) V)) * ArenaP a A)) (fun w' hw' => ⟨_, results_none rfl _ _ _, rfl, hw'⟩) [] _ ?_
        exact H9.out.to (SP.one_mul _).symm
  · rw [hov] at d4
    have Hov := Lib.hid hov
    clear hov d2
    have ha := Lib.hid ((mkArena_tr k M).use (H2.out.to (Q := MarkP k M * (VyQ i V lv * (boxP bb (.pointer (some ⟨i.b, 0, none⟩)) 65 * ArenaP a A))) (by simp only [SP.mul_assoc, SP.mul_left_comm, SP.mul_comm])))
    rw [show ({ block := k.m, off := 0, spot := none } : Addr) = { block := i.m, off := 0, spot := none } by rw [Hm.out], Hka.out] at ha
    refine calls_of_marks Try.func52 rfl ?_
    simp only [Try.ntmps52, List.size_toArray, List.length_cons, List.length_nil, Nat.reduceAdd, Nat.reduceSub, Array.replicate_succ, Array.replicate_zero, List.push_toArray, List.append_toArray, List.nil_append, List.cons_append]
    go_wp2_with fail
    refine ha.out.mono ?_
    rintro e w2 ⟨rfl, rfl⟩
    clear ha cb d0 d4
    go_wp2_with fail
    refine ((arAll_tr a.a).use (H2.out.mul1.to (SP.mul_comm _ _))).mono ?_
    rintro e w2 ⟨kk, rfl, h3⟩
    go_wp2_with fail
    obtain ⟨sh, hsh⟩ : ∃ sh : Nat → Mk, sh = fun n => M.shades k.room ((List.range n).filter (fun r => A.tk r && decide (0 < V.cnt r))) := ⟨_, rfl⟩
    have Hsh := Lib.hid hsh
    clear hsh
    have hnext : ∀ j, sh (j + 1) = if A.tk j && decide (0 < V.cnt j) then (sh j).shade k.room j else sh j := by
      intro j
      rw [Hsh.out]
      dsimp only
      rw [List.range_succ, filter_snoc]
      split
      · rw [Mk.shades_snoc]
      · rfl
    have Hnext := Lib.hid hnext
    clear hnext
    have wF : ∀ f, Fence.wide.fn f := fun _ => trivial
    have wD : Fence.wide.depth = none := rfl
    have h4 : St (boxP kk (.pointer (some ⟨a.a, 0, none⟩)) 28 * (ArenaP a A * (boxP bb (.pointer (some ⟨i.b, 0, none⟩)) 65 * (VyQ i V lv * MarkP k (sh 0))))) F w2 := by
      have e : sh 0 = M := by rw [Hsh.out]; rfl
      rw [e]
      exact h3.to (by simp only [SP.mul_assoc, SP.mul_left_comm, SP.mul_comm])
    have H4 := Lib.hid h4
    clear h3 h4 H2
    refine rangeFunc_sl [] (arAll1_it a A kk (fun j => boxP bb (.pointer (some ⟨i.b, 0, none⟩)) 65 * (VyQ i V lv * MarkP k (sh j))) ?skip) rfl (enters_of Try.func96 (by kernel_rfl) rfl) (fun _ _ => rfl) (fun _ => SP.wh False 1) ?act H4.out.mul1 ?assign ?body ?done ?stop
    case skip =>
      intro j x hj hx
      have e := Hnext.out j
      rw [hj] at e
      simp only [Bool.false_and, Bool.false_eq_true, if_false] at e
      rw [e]
      exact hx
    case assign =>
      intro l2 x W K hx hKK
      have HKK := Lib.hid hKK
      clear hKK
      gi_wp2
      exact HKK.out
    case body =>
      rintro l2 j F' W ⟨hj, hy⟩ _ h7
      have h8 : St (VyQ i V lv * (boxP bb (.pointer (some ⟨i.b, 0, none⟩)) 65 * (MarkP k (sh j) * ArenaP a A))) F' W := h7.to (by simp only [SP.mul_assoc, SP.mul_left_comm, SP.mul_comm])
      have cb := (h8.to (SP.mul_left_comm _ _ _)).box
      obtain ⟨d0, d1, d2, d3, d4, d5⟩ := h8.vyF
      have d6 := d5 j (by rw [HiN.out]; exact hj)
      have hshade := (shade_tr k (sh j) j (by rw [HkN.out]; exact hj)).use (h8.to (Q := MarkP k (sh j) * (VyQ i V lv * (boxP bb (.pointer (some ⟨i.b, 0, none⟩)) 65 * ArenaP a A))) (by simp only [SP.mul_assoc, SP.mul_left_comm, SP.mul_comm]))
      rw [show ({ block := k.m, off := 0, spot := none } : Addr) = { block := i.m, off := 0, spot := none } by rw [Hm.out]] at hshade
      have e := Hnext.out j
      rw [hy, Bool.true_and] at e
      have He := Lib.hid e
      have H8 := Lib.hid h7
      have Hshade := Lib.hid hshade
      have hcnt := vyCount_any i V.cnt j (by rw [HiN.out]; exact hj) (Hb.out.2 j) W d1 d6
      have Hcnt := Lib.hid hcnt
      clear h7 h8 d1 d2 d3 d4 d5 d6 e hshade hy hcnt
      by_cases hc : 0 < V.cnt j
      · have hc' : (0 : Int) < V.cnt j := by omega
        have He2 : Hid (sh (j + 1) = (sh j).shade k.room j) := Lib.hid (by rw [He.out, if_pos (by simp [hc])])
        clear hc
        gi_wp2_with fail
        refine (callsIn_round Hcnt.out).mono ?_
        rintro e w3 ⟨rfl, rfl⟩
        gi_wp2_with fail
        refine (callsIn_round Hshade.out).mono ?_
        rintro e w4 ⟨rfl, h9⟩
        rw [← He2.out] at h9
        have H9 := Lib.hid h9
        clear h9
        gi_wp2_with fail
        exact H9.out.to (by simp only [SP.mul_assoc, SP.mul_left_comm, SP.mul_comm])
      · have hc' : ¬ (0 : Int) < V.cnt j := by omega
        have He2 : Hid (sh (j + 1) = sh j) := Lib.hid (by rw [He.out, if_neg (by simp; omega)])
        clear hc
        gi_wp2_with fail
        refine (callsIn_round Hcnt.out).mono ?_
        rintro e w3 ⟨rfl, rfl⟩
        gi_wp2_with fail
        show St (ArenaP a A * (boxP bb (.pointer (some ⟨i.b, 0, none⟩)) 65 * (VyQ i V lv * MarkP k (sh (j + 1))))) F' _
        rw [He2.out]
        exact H8.out
    case done =>
      intro d W h
      have h10 : St (VyQ i V lv * (Marks [d] * (MarkP k (sh (32 * A.np + 1)) * ArenaP a A))) F W :=
        (h.to (Q := VyQ i V lv * (Marks [d] * (MarkP k (sh (32 * A.np + 1)) * ArenaP a A)) * boxP bb (.pointer (some ⟨i.b, 0, none⟩)) 65) (by simp only [SP.mul_assoc, SP.mul_left_comm, SP.mul_comm])).drop
      have h11 : St (VyP i V * (Marks [d] * (MarkP k (M.shades k.room (vyRs A (32 * A.np + 1) V)) * ArenaP a A))) F W := by
        rw [Hsh.out] at h10
        dsimp only at h10
        unfold vyRs
        rw [Hov.out]
        exact St.vyq.2 ⟨_, Hb.out, h10⟩
      have H11 := Lib.hid h11
      clear h h10 h11
      go_wp2_with fail
      refine leaves_marks (F := F) (Q := VyP i V * (MarkP k (M.shades k.room (vyRs A (32 * A.np + 1) V)) * ArenaP a A)) (fun w' hw' => ⟨_, results_none rfl _ _ _, rfl, hw'⟩) [d] _ ?_
      exact H11.out.to (SP.mul_left_comm _ _ _)
    case stop =>
      intro c d W h
      exact (St.whm.1 h).1.elim
end Go.Proofs.Ytknmlfolbapmpaa
