import Derived.Test.YtknmlfolbapmpaaIt3
namespace Go.Proofs.Ytknmlfolbapmpaa
open Go Go.RowKit

set_option maxRecDepth 100000 in
/-- mark.New. -/
theorem mkNew_tr (i : ArId) (A : Ar) (room : Nat) (hr : room ≤ 100000) : Tr Try.prog 20 #[.pointer (some ⟨i.a, 0, none⟩), .int .i64 room] (ArenaP i A)
    (fun x : MkId => .pointer (some ⟨x.m, 0, none⟩)) (fun x => SP.wh (x.a = i.a ∧ x.N = 32 * A.np + 1 ∧ x.room = max room 1) (ArenaP i A * MarkP x ⟨fun _ => false, fun _ => false, [], false⟩)) := by
  intro F w h
  have hn : A.np ≤ 64 := (St.ar.1 h.mul1).1.1
  have Hs1 := Lib.hid (arSize_tr i A F w h)
  go_enter Try.func20, Try.ntmps20
  go_wp2_with fail
  refine Hs1.out.mono ?_
  rintro e w0 ⟨rfl, rfl⟩
  go_wp2_with fail
  refine ((bitsNew_tr (32 * A.np + 1) (by omega)).use (h.mul1.to (SP.mul_comm _ _))).mono ?_
  rintro e w1 ⟨mb, rfl, h1⟩
  have Hs2 := Lib.hid ((arSize_tr i A).use (h1.to (SP.mul_comm _ _)))
  clear h Hs1
  go_wp2_with fail
  refine Hs2.out.mono ?_
  rintro e w2 ⟨rfl, rfl⟩
  go_wp2_with fail
  refine ((bitsNew_tr (32 * A.np + 1) (by omega)).use (h1.mul1.to (SP.mul_comm _ _))).mono ?_
  rintro e w2 ⟨sb, rfl, h2⟩
  clear h1 Hs2
  have hm : max (room : Int) 1 = ((max room 1 : Nat) : Int) := by omega
  have fin : ∀ (w3 : World) (g : Nat) (rr : Nat), rr = max room 1 → St (GreyP g rr false [] * ((SetP sb (32 * A.np + 1) fun _ => false) * ((SetP mb (32 * A.np + 1) fun _ => false) * ArenaP i A))) F w3 →
      ∃ x : MkId, Ending.returned (.pointer (some ⟨w3.heap.size, 0, none⟩)) = Ending.returned (Value.pointer (some ⟨x.m, 0, none⟩)) ∧
        St (SP.wh (x.a = i.a ∧ x.N = 32 * A.np + 1 ∧ x.room = max room 1) (ArenaP i A * MarkP x ⟨fun _ => false, fun _ => false, [], false⟩)) F (w3.alloc (.cells #[.pointer (some ⟨i.a, 0, none⟩), .pointer (some ⟨mb, 0, none⟩), .pointer (some ⟨sb, 0, none⟩), .pointer (some ⟨g, 0, none⟩)] 94)) := by
    intro w3 g rr hrr h3
    refine ⟨⟨w3.heap.size, i.a, mb, sb, g, 32 * A.np + 1, rr⟩, rfl, St.wh.2 ⟨⟨rfl, rfl, hrr⟩, ?_⟩⟩
    have h4 := h3.alloc (mkObj ⟨w3.heap.size, i.a, mb, sb, g, 32 * A.np + 1, rr⟩)
    refine h4.to ?_
    unfold MarkP
    simp only [SP.mul_assoc, SP.mul_left_comm, SP.mul_comm]
  have Hf := Lib.hid fin
  clear fin
  by_cases hroom : room < 1
  · obtain rfl : room = 0 := by omega
    clear hm
    go_wp2_with fail
    refine ((greyNew_tr 1 (by decide)).use (h2.mul1.to (SP.mul_comm _ _))).mono ?_
    rintro e w3 ⟨g, rfl, h3⟩
    have HF := Lib.hid (Hf.out w3 g 1 (by simp) h3)
    clear Hf h2 h3
    go_wp2
    go_ret
    exact HF.out
  · have hm2 : room = max room 1 := by omega
    clear hm
    have Hm := Lib.hid hm2
    clear hm2
    go_wp2_with fail
    refine ((greyNew_tr room (by omega)).use (h2.mul1.to (SP.mul_comm _ _))).mono ?_
    rintro e w3 ⟨g, rfl, h3⟩
    rw [Int.toNat_natCast] at h3
    have HF := Lib.hid (Hf.out w3 g room Hm.out h3)
    clear Hf h2 h3
    go_wp2
    go_ret
    exact HF.out
theorem info_page : (Try.prog.info? 107).map (fun i => (i.zero, i.size, i.bytes)) = some (some (.agg #[.int .i64 0, .int .i64 0]), 2, 16) := by kernel_rfl

theorem SP.rot1 (P Q R : SP) : P * (Q * (R * 1)) = P * (R * Q) * 1 := by simp only [SP.mul_one, SP.mul_comm]
theorem SP.rot2 (P Q R : SP) : P * (Q * (R * 1)) = P * (Q * R) * 1 := by simp only [SP.mul_one]
theorem made_pages (n : Nat) : madeCells #[.int .i64 0, .int .i64 0] (n * 2) = row (2 * n) fun k => .int .i64 (if k % 2 = 0 then (if k / 2 < 0 then (-1 : Int) else 0) else ((0 : Nat) : Int)) := by
  unfold madeCells row
  apply Array.ext
  · simp [Nat.mul_comm]
  · intro i h1 h2
    simp only [List.size_toArray, List.length_map, List.length_range] at h2
    rcases Nat.mod_two_eq_zero_or_one i with e | e <;> simp [e]
theorem made_words (n : Nat) : madeCells #[.int .i64 0] n = row n fun _ => .int .i64 0 := by
  unfold madeCells row
  apply Array.ext
  · simp
  · intro i h1 h2
    simp [Nat.mod_one]

/-- An arena of which k pages are made. -/
def Ar.begun (n k : Nat) : Ar := ⟨n, fun p => if p < k then -1 else 0, fun _ => 0, fun _ => 0, fun _ => false, n⟩
set_option maxRecDepth 100000 in
/-- arena.New. -/
theorem arNew_tr (n : Nat) (hn : n ≤ 64) : Tr Try.prog 72 #[.int .i64 n] 1
    (fun x : ArId => .pointer (some ⟨x.a, 0, none⟩)) (fun x => ArenaP x ⟨n, fun _ => -1, fun _ => 0, fun _ => 0, fun _ => false, n⟩) := by
  intro F w h
  have h64 : ¬ (64 : Int) < n := by omega
  have h0 : ¬ (n : Int) < 0 := by omega
  obtain ⟨ip, hip, hpz, hps, hpb⟩ := info_parts info_page
  have hmp := fun W : World => run_make (P := Try.prog) W 102 107 ip (.agg #[.int .i64 0, .int .i64 0]) Try.underlying102 hip hpz .i64 .i64 (n : Int) (n : Int) (by omega) (Int.le_refl _) (by rw [hpb]; omega) (by omega)
  obtain ⟨ii, hii, hiz, his, hib⟩ := info_parts info_int
  have hmw := fun W : World => run_make (P := Try.prog) W 103 3 ii (.int .i64 0) Try.underlying103 hii hiz .i64 .i64 (32 * (n : Int)) (32 * (n : Int)) (by omega) (Int.le_refl _) (by rw [hib]; omega) (by omega)
  rw [hps] at hmp
  rw [his] at hmw
  have e32 : (32 * (n : Int)).toNat = 32 * n := by omega
  rw [e32] at hmw
  simp only [Int.toNat_natCast, Nat.mul_one] at hmp hmw
  have hw : IntKind.i64.wrap ((n : Int) * 32) = 32 * (n : Int) := by rw [IntKind.wrap_i64]; omega
  clear hip hpz hps hpb hii hiz his hib e32
  go_enter Try.func72, Try.ntmps72
  go_wp2_with fail
  go_region
  all_goals obtain ⟨ab, hab⟩ : ∃ ab, w.heap.size + 1 + 1 = ab := ⟨_, rfl⟩
  all_goals rw [hab]
  all_goals generalize hw3 : World.drew _ = w3
  · have hs : St (pts ab (.cells #[.slice (some ⟨w.heap.size, 0, none⟩) n n, .slice (some ⟨(w.heap.size + 1), 0, none⟩) (32 * n) (32 * n), .pointer none, .int .i64 n] 105 (0, 0)) * (pts w.heap.size (pagesObj (Ar.begun n 0)) * pts (w.heap.size + 1) (wordsObj (Ar.begun n 0)))) F w3 := by
      have h1 := ((h.alloc (.cells (madeCells #[.int .i64 0, .int .i64 0] (n * 2)) 107)).alloc (.cells (madeCells #[.int .i64 0] (32 * n)) 3)).alloc (.cells #[.slice (some ⟨w.heap.size, 0, none⟩) n n, .slice (some ⟨(w.heap.size + 1), 0, none⟩) (32 * n) (32 * n), .pointer none, .int .i64 n] 105 (0, 0))
      simp only [World.size_alloc] at h1
      rw [← hw3, ← hab]
      refine ((h1.to (Q := pts (w.heap.size + 1 + 1) (.cells #[.slice (some ⟨w.heap.size, 0, none⟩) n n, .slice (some ⟨(w.heap.size + 1), 0, none⟩) (32 * n) (32 * n), .pointer none, .int .i64 n] 105 (0, 0)) * (pts w.heap.size (pagesObj (Ar.begun n 0)) * pts (w.heap.size + 1) (wordsObj (Ar.begun n 0))) * 1) ?_).unmul1).drew
      have e1 : pagesObj (Ar.begun n 0) = .cells (madeCells #[.int .i64 0, .int .i64 0] (n * 2)) 107 (0, 0) := by rw [made_pages]; rfl
      have e2 : wordsObj (Ar.begun n 0) = .cells (madeCells #[.int .i64 0] (32 * n)) 3 (0, 0) := by rw [made_words]; rfl
      rw [e1, e2]
      exact SP.rot1 _ _ _
    clear hmp hmw
    have c0 : w3.cell? ⟨ab, 0, none⟩ = some (.slice (some ⟨w.heap.size, 0, none⟩) n n) := by rw [cell_of hs.at]; rfl
    generalize hwb : (w.heap.size + 1) = wb at *
    generalize hpb : w.heap.size = pb at *
    clear hpb hwb hw3 hab
    have Hs := Lib.hid hs
    clear hs
    go_wp2_with fail
    go_loopw [22] (fun v wr => ∃ k : Nat, k ≤ n ∧ v = .int .i64 k ∧ St (pts ab (.cells #[.slice (some ⟨pb, 0, none⟩) n n, .slice (some ⟨wb, 0, none⟩) (32 * n) (32 * n), .pointer none, .int .i64 n] 105 (0, 0)) * (pts pb (pagesObj (Ar.begun n k)) * pts wb (wordsObj (Ar.begun n k)))) F wr) (fun v _ => n - (intOf v).toNat)
    case atStart => exact ⟨0, Nat.zero_le _, rfl, Hs.out⟩
    case round =>
      obtain ⟨k, hk, rfl, hs⟩ := hrel
      clear c0
      have c0 : wr.cell? ⟨ab, 0, none⟩ = some (.slice (some ⟨pb, 0, none⟩) n n) := by rw [cell_of hs.at]; rfl
      clear Hs
      by_cases hlt : k < n
      · have hlt' : (k : Int) < n := by omega
        have hk0 : 0 ≤ (k : Int) := by omega
        have h5 := hs.to (SP.mul_left_comm _ _ _)
        have c1 : wr.cell? ⟨pb, k * 2, none⟩ = some (.int .i64 (if k < k then -1 else 0)) := page_cls (A := Ar.begun n k) h5.at hlt
        have f1 : wr.frozen? ⟨pb, k * 2, none⟩ = false := frozen_of h5.at
        have h6 := St.setCls (i := ⟨ab, pb, wb, 0⟩) (p := k) (v := -1) h5
        have h7 : St (pts ab (.cells #[.slice (some ⟨pb, 0, none⟩) n n, .slice (some ⟨wb, 0, none⟩) (32 * n) (32 * n), .pointer none, .int .i64 n] 105 (0, 0)) * (pts pb (pagesObj (Ar.begun n (k + 1))) * pts wb (wordsObj (Ar.begun n (k + 1))))) F (wr.setCell ⟨pb, k * 2, none⟩ (.int .i64 (-1))) := by
          have e1 : upd (Ar.begun n k).cls k (-1) = (Ar.begun n (k + 1)).cls := by
            funext p
            by_cases e : p = k
            · subst e; simp [upd, Ar.begun]
            · simp only [upd, Ar.begun, if_neg e]
              by_cases h : p < k
              · rw [if_pos h, if_pos (by omega)]
              · rw [if_neg h, if_neg (by omega)]
          have h8 := h6.to (SP.mul_left_comm _ _ _)
          rw [e1] at h8
          exact h8
        have H7 := Lib.hid h7
        have hw1 : IntKind.i64.wrap ((k : Int) + 1) = ((k + 1 : Nat) : Int) := by rw [IntKind.wrap_i64]; omega
        clear hs h5 h6 h7
        go_wp2_with fail
        go_roundw
        case rel => exact ⟨k + 1, by omega, by go_num, H7.out⟩
        case measure => simp [intOf]; omega
      · obtain rfl : k = n := by omega
        have Hs := Lib.hid hs
        have hw1 : IntKind.i64.wrap (32 * (k : Int) + 1) = ((32 * k + 1 : Nat) : Int) := by rw [IntKind.wrap_i64]; omega
        have hw2 : IntKind.i64.wrap ((k : Int) * 32 + 1) = ((32 * k + 1 : Nat) : Int) := by rw [IntKind.wrap_i64]; omega
        have hw3 : IntKind.i64.wrap ((k : Int) * 32) = (k : Int) * 32 := by rw [IntKind.wrap_i64]; omega
        clear hs hw
        go_wp2_with (go_at_call 75; go_in)
        refine ((bitsNew_tr (32 * k + 1) (by omega)).use (Hs.out.mul1.to (SP.mul_comm _ _))).mono ?_
        rintro e w4 ⟨tb, rfl, h4⟩
        have h5 : St (pts ab (.cells #[.slice (some ⟨pb, 0, none⟩) k k, .slice (some ⟨wb, 0, none⟩) (32 * k) (32 * k), .pointer none, .int .i64 k] 105 (0, 0)) * ((pts pb (pagesObj (Ar.begun k k)) * pts wb (wordsObj (Ar.begun k k))) * SetP tb (32 * k + 1) fun _ => false)) F w4 := h4.to (by simp only [SP.mul_assoc, SP.mul_left_comm, SP.mul_comm])
        have c2 : w4.cell? ⟨ab, 2, none⟩ = some (.pointer none) := by rw [cell_of h5.at]; rfl
        have f2 : w4.frozen? ⟨ab, 2, none⟩ = false := frozen_of h5.at
        have h6 := h5.set (off := 2) (v := .pointer (some ⟨tb, 0, none⟩))
        have H6 := Lib.hid h6
        clear Hs h4 h5 h6
        go_wp2_with fail
        go_ret
        refine ⟨⟨ab, pb, wb, tb⟩, rfl, ?_⟩
        refine St.unmul1 (St.ar.2 ⟨⟨hn, Nat.le_refl _⟩, ?_⟩)
        have e1 : pagesObj ⟨k, fun _ => -1, fun _ => 0, fun _ => 0, fun _ => false, k⟩ = pagesObj (Ar.begun k k) := by
          unfold pagesObj
          congr 1
          refine row_congr fun j hj => ?_
          by_cases h2 : j % 2 = 0
          · have h3 : j / 2 < k := by show j / 2 < k; change j < 2 * k at hj; omega
            simp only [h2, if_true, Ar.begun, h3]
          · simp only [h2, if_false, Ar.begun]
        rw [e1]
        exact H6.out.to (by rw [SP.mul_one]; simp only [SP.mul_assoc]; rfl)
  · have hs : St (pts ab (.cells #[.slice (some ⟨(w.heap.size + 1), 0, none⟩) n n, .slice (some ⟨w.heap.size, 0, none⟩) (32 * n) (32 * n), .pointer none, .int .i64 n] 105 (0, 0)) * (pts (w.heap.size + 1) (pagesObj (Ar.begun n 0)) * pts w.heap.size (wordsObj (Ar.begun n 0)))) F w3 := by
      have h1 := ((h.alloc (.cells (madeCells #[.int .i64 0] (32 * n)) 3)).alloc (.cells (madeCells #[.int .i64 0, .int .i64 0] (n * 2)) 107)).alloc (.cells #[.slice (some ⟨(w.heap.size + 1), 0, none⟩) n n, .slice (some ⟨w.heap.size, 0, none⟩) (32 * n) (32 * n), .pointer none, .int .i64 n] 105 (0, 0))
      simp only [World.size_alloc] at h1
      rw [← hw3, ← hab]
      refine ((h1.to (Q := pts (w.heap.size + 1 + 1) (.cells #[.slice (some ⟨(w.heap.size + 1), 0, none⟩) n n, .slice (some ⟨w.heap.size, 0, none⟩) (32 * n) (32 * n), .pointer none, .int .i64 n] 105 (0, 0)) * (pts (w.heap.size + 1) (pagesObj (Ar.begun n 0)) * pts w.heap.size (wordsObj (Ar.begun n 0))) * 1) ?_).unmul1).drew
      have e1 : pagesObj (Ar.begun n 0) = .cells (madeCells #[.int .i64 0, .int .i64 0] (n * 2)) 107 (0, 0) := by rw [made_pages]; rfl
      have e2 : wordsObj (Ar.begun n 0) = .cells (madeCells #[.int .i64 0] (32 * n)) 3 (0, 0) := by rw [made_words]; rfl
      rw [e1, e2]
      exact SP.rot2 _ _ _
    clear hmp hmw
    have c0 : w3.cell? ⟨ab, 0, none⟩ = some (.slice (some ⟨(w.heap.size + 1), 0, none⟩) n n) := by rw [cell_of hs.at]; rfl
    generalize hpb : (w.heap.size + 1) = pb at *
    generalize hwb : w.heap.size = wb at *
    clear hpb hwb hw3 hab
    have Hs := Lib.hid hs
    clear hs
    go_wp2_with fail
    go_loopw [22] (fun v wr => ∃ k : Nat, k ≤ n ∧ v = .int .i64 k ∧ St (pts ab (.cells #[.slice (some ⟨pb, 0, none⟩) n n, .slice (some ⟨wb, 0, none⟩) (32 * n) (32 * n), .pointer none, .int .i64 n] 105 (0, 0)) * (pts pb (pagesObj (Ar.begun n k)) * pts wb (wordsObj (Ar.begun n k)))) F wr) (fun v _ => n - (intOf v).toNat)
    case atStart => exact ⟨0, Nat.zero_le _, rfl, Hs.out⟩
    case round =>
      obtain ⟨k, hk, rfl, hs⟩ := hrel
      clear c0
      have c0 : wr.cell? ⟨ab, 0, none⟩ = some (.slice (some ⟨pb, 0, none⟩) n n) := by rw [cell_of hs.at]; rfl
      clear Hs
      by_cases hlt : k < n
      · have hlt' : (k : Int) < n := by omega
        have hk0 : 0 ≤ (k : Int) := by omega
        have h5 := hs.to (SP.mul_left_comm _ _ _)
        have c1 : wr.cell? ⟨pb, k * 2, none⟩ = some (.int .i64 (if k < k then -1 else 0)) := page_cls (A := Ar.begun n k) h5.at hlt
        have f1 : wr.frozen? ⟨pb, k * 2, none⟩ = false := frozen_of h5.at
        have h6 := St.setCls (i := ⟨ab, pb, wb, 0⟩) (p := k) (v := -1) h5
        have h7 : St (pts ab (.cells #[.slice (some ⟨pb, 0, none⟩) n n, .slice (some ⟨wb, 0, none⟩) (32 * n) (32 * n), .pointer none, .int .i64 n] 105 (0, 0)) * (pts pb (pagesObj (Ar.begun n (k + 1))) * pts wb (wordsObj (Ar.begun n (k + 1))))) F (wr.setCell ⟨pb, k * 2, none⟩ (.int .i64 (-1))) := by
          have e1 : upd (Ar.begun n k).cls k (-1) = (Ar.begun n (k + 1)).cls := by
            funext p
            by_cases e : p = k
            · subst e; simp [upd, Ar.begun]
            · simp only [upd, Ar.begun, if_neg e]
              by_cases h : p < k
              · rw [if_pos h, if_pos (by omega)]
              · rw [if_neg h, if_neg (by omega)]
          have h8 := h6.to (SP.mul_left_comm _ _ _)
          rw [e1] at h8
          exact h8
        have H7 := Lib.hid h7
        have hw1 : IntKind.i64.wrap ((k : Int) + 1) = ((k + 1 : Nat) : Int) := by rw [IntKind.wrap_i64]; omega
        clear hs h5 h6 h7
        go_wp2_with fail
        go_roundw
        case rel => exact ⟨k + 1, by omega, by go_num, H7.out⟩
        case measure => simp [intOf]; omega
      · obtain rfl : k = n := by omega
        have Hs := Lib.hid hs
        have hw1 : IntKind.i64.wrap (32 * (k : Int) + 1) = ((32 * k + 1 : Nat) : Int) := by rw [IntKind.wrap_i64]; omega
        have hw2 : IntKind.i64.wrap ((k : Int) * 32 + 1) = ((32 * k + 1 : Nat) : Int) := by rw [IntKind.wrap_i64]; omega
        have hw3 : IntKind.i64.wrap ((k : Int) * 32) = (k : Int) * 32 := by rw [IntKind.wrap_i64]; omega
        clear hs hw
        go_wp2_with (go_at_call 75; go_in)
        refine ((bitsNew_tr (32 * k + 1) (by omega)).use (Hs.out.mul1.to (SP.mul_comm _ _))).mono ?_
        rintro e w4 ⟨tb, rfl, h4⟩
        have h5 : St (pts ab (.cells #[.slice (some ⟨pb, 0, none⟩) k k, .slice (some ⟨wb, 0, none⟩) (32 * k) (32 * k), .pointer none, .int .i64 k] 105 (0, 0)) * ((pts pb (pagesObj (Ar.begun k k)) * pts wb (wordsObj (Ar.begun k k))) * SetP tb (32 * k + 1) fun _ => false)) F w4 := h4.to (by simp only [SP.mul_assoc, SP.mul_left_comm, SP.mul_comm])
        have c2 : w4.cell? ⟨ab, 2, none⟩ = some (.pointer none) := by rw [cell_of h5.at]; rfl
        have f2 : w4.frozen? ⟨ab, 2, none⟩ = false := frozen_of h5.at
        have h6 := h5.set (off := 2) (v := .pointer (some ⟨tb, 0, none⟩))
        have H6 := Lib.hid h6
        clear Hs h4 h5 h6
        go_wp2_with fail
        go_ret
        refine ⟨⟨ab, pb, wb, tb⟩, rfl, ?_⟩
        refine St.unmul1 (St.ar.2 ⟨⟨hn, Nat.le_refl _⟩, ?_⟩)
        have e1 : pagesObj ⟨k, fun _ => -1, fun _ => 0, fun _ => 0, fun _ => false, k⟩ = pagesObj (Ar.begun k k) := by
          unfold pagesObj
          congr 1
          refine row_congr fun j hj => ?_
          by_cases h2 : j % 2 = 0
          · have h3 : j / 2 < k := by show j / 2 < k; change j < 2 * k at hj; omega
            simp only [h2, if_true, Ar.begun, h3]
          · simp only [h2, if_false, Ar.begun]
        rw [e1]
        exact H6.out.to (by rw [SP.mul_one]; simp only [SP.mul_assoc]; rfl)
end Go.Proofs.Ytknmlfolbapmpaa
