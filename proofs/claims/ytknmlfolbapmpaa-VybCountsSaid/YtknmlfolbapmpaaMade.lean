import Derived.Test.YtknmlfolbapmpaaWf
import Derived.Test.YtknmlfolbapmpaaNew
import Derived.Test.YtknmlfolbapmpaaGroup
import Derived.Test.YtknmlfolbapmpaaHeld
import Derived.Shelf.Abstract
import Derived.RegionTactic
import Derived.Deep.LoopGhost
namespace Go.Proofs.Ytknmlfolbapmpaa
open Go Go.RowKit
attribute [local go_sem] Oper.semAt_some

/-- What a world that holds the frame reads at a place. -/
def Fr.rd (F : Fr) (a : Addr) (v : Value) : Prop := ∀ w : World, F.hp.On w → w.cell? a = some v
theorem Fr.rd.plus {F : Fr} {a : Addr} {v : Value} (h : F.rd a v) (r : Hp) : (F.plus r).rd a v := fun w hw => h w hw.left
theorem St.rd {P : SP} {F : Fr} {w : World} (h : St P F w) {a : Addr} {v : Value} (hr : F.rd a v) : w.cell? a = some v := by
  obtain ⟨_, _, _, fon, _⟩ := h
  exact hr w fon
/-- A slice of bytes that the frame holds. -/
def InBytes (F : Fr) (v : Value) (fs : List Nat) : Prop := ∃ o c, v = .slice o fs.length c ∧ ∀ (j f : Nat), fs[j]? = some f → f < 256 ∧ ∃ a, o = some a ∧ F.rd (a.add j) (.int .u8 f)
/-- A slice of triples that the frame holds. -/
def InTriples (F : Fr) (v : Value) (es : List (Nat × Nat × Nat)) : Prop := ∃ o c, v = .slice o es.length c ∧ ∀ (j : Nat) (e : Nat × Nat × Nat), es[j]? = some e → (e.1 < 65536 ∧ e.2.1 < 65536 ∧ e.2.2 < 65536) ∧
  ∃ a, o = some a ∧ F.rd (a.add (j * 3)) (.int .u16 e.1) ∧ F.rd ((a.add (j * 3)).add 1) (.int .u16 e.2.1) ∧ F.rd ((a.add (j * 3)).add 2) (.int .u16 e.2.2)

/-- Objects that were made. -/
structure Madek (A : Ar) (l : List Nat) (fs : List Nat) : Prop where
  np : A.np = 64
  wf : A.WF
  len : l.length = fs.length
  nd : l.Nodup
  ob : ∀ (j r f : Nat), l[j]? = some r → fs[j]? = some f → A.Ob r (f % 7)
  tk : ∀ r, A.tk r = true → r ∈ l
  free : 64 ≤ A.free + l.length
  wd : ∀ (j r f i : Nat), l[j]? = some r → fs[j]? = some f → i < f % 7 → A.wd (r + 1 + i) = 0 ∨ ∃ r' ∈ l, A.wd (r + 1 + i) = (r' : Int)

theorem Madek.step {A : Ar} {l fs : List Nat} (M : Madek A l fs) (hlen : fs.length < 40) (f : Nat) {p k : Nat} (ht : A.takes (classOf ((f % 7 : Nat) : Int)) p k) :
    Madek (A.newed (classOf ((f % 7 : Nat) : Int)) p k (f % 7)) (l ++ [rf p (classOf ((f % 7 : Nat) : Int)) k]) (fs ++ [f]) := by
  obtain ⟨hc0, hc3, hcw⟩ := classOf_ok (f := f % 7) (by omega)
  generalize classOf ((f % 7 : Nat) : Int) = c at *
  obtain ⟨hp, hk, hnew, hcls⟩ := Ar.takes_new M.wf hc0 hc3 ht
  have hN := Ar.newed_new (f := f % 7) M.wf hc0 hc3 ht hcw
  have hnot : rf p c k ∉ l := fun hm => by
    obtain ⟨j, hj⟩ := List.mem_iff_getElem?.1 hm
    obtain ⟨f', hf'⟩ : ∃ f', fs[j]? = some f' := ⟨fs[j]'(by have := (List.getElem?_eq_some_iff.1 hj).1; rw [← M.len]; exact this), by simp⟩
    have := (M.ob j _ f' hj hf').1
    rw [hnew] at this
    cases this
  have hsplit : ∀ {α : Type} {l : List α} {x y : α} {j : Nat}, (l ++ [x])[j]? = some y → l[j]? = some y ∨ (j = l.length ∧ y = x) := by
    intro α l x y j h
    by_cases hj : j < l.length
    · rw [List.getElem?_append_left hj] at h; exact .inl h
    · rw [List.getElem?_append_right (by omega)] at h
      have hj0 : j - l.length = 0 := by
        cases hd : j - l.length with
        | zero => rfl
        | succ m => rw [hd] at h; simp at h
      rw [hj0] at h
      simp at h
      exact .inr ⟨by omega, h.symm⟩
  refine ⟨M.np, Ar.newed_wf M.wf hc0 hc3 ht, by simp [M.len], ?_, ?_, ?_, ?_, ?_⟩
  · rw [List.nodup_append]
    exact ⟨M.nd, by simp, fun a ha b hb => by simp at hb; rintro rfl; exact hnot (hb ▸ ha)⟩
  · intro j r f' hj hf'
    rcases hsplit hj with hj1 | ⟨hj1, rfl⟩
    · rcases hsplit hf' with hf1 | ⟨hf1, rfl⟩
      · exact Ar.newed_old M.wf hc0 hc3 ht (M.ob j r f' hj1 hf1)
      · have := (List.getElem?_eq_some_iff.1 hj1).1; rw [M.len] at this; omega
    · rcases hsplit hf' with hf1 | ⟨hf1, rfl⟩
      · have := (List.getElem?_eq_some_iff.1 hf1).1; rw [← M.len] at this; omega
      · exact hN.1
  · intro r hr
    rw [Ar.newed_tk] at hr
    by_cases e : r = rf p c k
    · simp [e]
    · rw [upd_other _ _ e] at hr; simp [M.tk r hr]
  · rw [Ar.newed_free]
    have := M.free
    simp only [List.length_append, List.length_singleton]
    split <;> omega
  · intro j r f' i hj hf' hi
    rcases hsplit hj with hj1 | ⟨hj1, rfl⟩
    · rcases hsplit hf' with hf1 | ⟨hf1, rfl⟩
      · have hO := M.ob j r f' hj1 hf1
        rw [Ar.newed_wd M.wf hc0 hc3 ht hO (j := r + 1 + i) (by omega) (by omega)]
        rcases M.wd j r f' i hj1 hf1 hi with h | ⟨r', h1, h2⟩
        · exact .inl h
        · exact .inr ⟨r', by simp [h1], h2⟩
      · have := (List.getElem?_eq_some_iff.1 hj1).1; rw [M.len] at this; omega
    · rcases hsplit hf' with hf1 | ⟨hf1, rfl⟩
      · have := (List.getElem?_eq_some_iff.1 hf1).1; rw [← M.len] at this; omega
      · exact .inl (hN.2 i hi)
theorem Madek.room {A : Ar} {l fs : List Nat} (M : Madek A l fs) (hlen : fs.length < 40) (c : Int) : ¬ A.noRoom c := fun h => by
  have := M.free
  have := M.len
  have := h.2
  omega
theorem Madek.begun : Madek ⟨64, fun _ => -1, fun _ => 0, fun _ => 0, fun _ => false, 64⟩ [] [] :=
  ⟨rfl, Ar.begun_wf 64 (by decide), rfl, List.nodup_nil, fun _ _ _ h _ => (by cases h), fun _ h => (by cases h), Nat.le_refl _, fun _ _ _ _ h _ _ => (by cases h)⟩

/-- What an object points to, by its first m fields. -/
def ptsV (A : Ar) (r m : Nat) : List Value := (List.range m).filterMap fun j => if A.wd (r + 1 + j) = 0 then none else some (.int .i64 (A.wd (r + 1 + j)))
theorem ptsV_len (A : Ar) (r m : Nat) : (ptsV A r m).length ≤ m := by
  unfold ptsV
  refine Nat.le_trans (List.length_filterMap_le _ _) ?_
  simp
theorem ptsV_skip {A : Ar} {r m : Nat} (h : A.wd (r + 1 + m) = 0) : ptsV A r (m + 1) = ptsV A r m := by
  unfold ptsV; rw [List.range_succ, List.filterMap_append]; simp [h]
theorem ptsV_one {A : Ar} {r m : Nat} (h : A.wd (r + 1 + m) ≠ 0) : ptsV A r (m + 1) = ptsV A r m ++ [.int .i64 (A.wd (r + 1 + m))] := by
  unfold ptsV; rw [List.range_succ, List.filterMap_append]; simp [h]
/-- Where objects point. -/
def outG (A : Ar) (l : List Nat) (r : Int) : List Value := if 0 ≤ r ∧ r.toNat ∈ l then ptsV A r.toNat (A.wd (r.toNat - 1)).toNat else []
theorem outG_new {A : Ar} {l : List Nat} {r : Nat} (h : r ∉ l) : outG A l (r : Int) = [] := by unfold outG; rw [if_neg (by rw [Int.toNat_natCast]; exact fun e => h e.2)]
theorem updI_self {α : Type} {g : Int → α} {r : Int} {v : α} (h : g r = v) : updI g r v = g := by
  funext x
  by_cases e : x = r
  · subst e; simp [updI, h]
  · simp [updI, e]
theorem updI_updI {α : Type} (g : Int → α) (r : Int) (u v : α) : updI (updI g r u) r v = updI g r v := by
  funext x
  by_cases e : x = r <;> simp [updI, e]
theorem outG_step {A : Ar} {l : List Nat} {r n : Nat} (hO : A.Ob r n) : updI (outG A l) (r : Int) (ptsV A r n) = outG A (l ++ [r]) := by
  funext x
  unfold updI
  by_cases e : x = r
  · subst e
    rw [if_pos rfl]
    unfold outG
    rw [if_pos ⟨by omega, by simp⟩, Int.toNat_natCast, hO.2.1, Int.toNat_natCast]
  · rw [if_neg e]
    unfold outG
    have : (0 ≤ x ∧ x.toNat ∈ l ++ [r]) ↔ (0 ≤ x ∧ x.toNat ∈ l) := by
      simp only [List.mem_append, List.mem_singleton]
      constructor
      · rintro ⟨h1, h2 | h2⟩
        · exact ⟨h1, h2⟩
        · omega
      · rintro ⟨h1, h2⟩; exact ⟨h1, .inl h2⟩
    simp only [this]
theorem info_refs : (Try.prog.info? 29).map (fun i => (i.zero, i.size, i.bytes)) = some (some (.slice none 0 0), 1, 24) := by kernel_rfl
theorem St.refAt {o : Option Addr} {l : List Nat} {c : Nat} {R : SP} {F : Fr} {w : World} (h : St (RowP 36 (.slice o l.length c) (l.map refV) * R) F w) {j r : Nat} (hj : l[j]? = some r) :
    ∃ g, o = some ⟨g, 0, none⟩ ∧ w.cell? ⟨g, j, none⟩ = some (.int .i64 r) := by
  obtain ⟨g, cap, e, hc, _⟩ := h.rowCell (i := j) (x := refV r) (by rw [List.getElem?_map, hj]; rfl)
  injection e with e1 e2 e3
  exact ⟨g, e1, hc⟩
theorem Madek.obj {A : Ar} {l fs : List Nat} (M : Madek A l fs) {r : Nat} (hr : r ∈ l) : ∃ f, A.Ob r (f % 7) ∧ ∀ i, i < f % 7 → A.wd (r + 1 + i) = 0 ∨ ∃ r' ∈ l, A.wd (r + 1 + i) = (r' : Int) := by
  obtain ⟨j, hj⟩ := List.mem_iff_getElem?.1 hr
  obtain ⟨f', hf'⟩ : ∃ f', fs[j]? = some f' := ⟨fs[j]'(by have := (List.getElem?_eq_some_iff.1 hj).1; rw [← M.len]; exact this), by simp⟩
  exact ⟨f', M.ob j r f' hj hf', fun i hi => M.wd j r f' i hj hf' hi⟩
theorem Madek.set {A : Ar} {l fs : List Nat} (M : Madek A l fs) {x n y j : Nat} (hx : A.Ob x n) (hj : j < n) (hy : y ∈ l) : Madek { A with wd := upd A.wd (x + 1 + j) (y : Int) } l fs :=
  ⟨M.np, Ar.setWd_wf M.wf _ _, M.len, M.nd, fun j' r f h1 h2 => Ar.setWd_ob hx (M.ob j' r f h1 h2) hj _, M.tk, M.free, fun j' r f i h1 h2 h3 => by
    show upd A.wd _ _ _ = 0 ∨ ∃ r' ∈ l, upd A.wd _ _ _ = (r' : Int)
    by_cases e : r + 1 + i = x + 1 + j
    · rw [e, upd_same]; exact .inr ⟨y, hy, rfl⟩
    · rw [upd_other _ _ e]; exact M.wd j' r f i h1 h2 h3⟩

set_option maxRecDepth 100000 in
set_option maxHeartbeats 4000000 in
theorem made (F : Fr) (v1 v2 : Value) (fs : List Nat) (es : List (Nat × Nat × Nat)) (h1 : InBytes F v1 fs) (h2 : InTriples F v2 es) (hfs : fs.length ≤ 40) (hes : es.length ≤ 120) (w : World) (h : St 1 F w) :
    Calls Try.prog 19 #[.agg #[v1, v2]] w fun e w' => ∃ (i : ArId) (A : Ar) (l : List Nat) (v : Value) (m : Nat), Madek A l fs ∧
      e = .returned (.tuple #[.pointer (some ⟨i.a, 0, none⟩), v, .map (some m)]) ∧ St (ArenaP i A * (RowP 36 v (l.map refV) * GroupP 36 m (outG A l))) F w' := by
  obtain ⟨o1, c1, rfl, h1⟩ := h1
  obtain ⟨o2, c2, rfl, h2⟩ := h2
  have H1 := Lib.hid h1
  have H2 := Lib.hid h2
  clear h1 h2
  have hb := h.mul1.alloc (.cells #[.slice o1 fs.length c1, .slice o2 es.length c2] 25)
  have Hb := Lib.hid hb
  clear h hb
  have hmk := fun W : World => run_makeMap (P := Try.prog) 30 W
  refine calls_of_marks Try.func19 rfl ?_
  simp only [Try.ntmps19, List.size_toArray, List.length_cons, List.length_nil, Nat.reduceAdd, Nat.reduceSub, Array.replicate_succ, Array.replicate_zero, List.push_toArray, List.append_toArray, List.nil_append, List.cons_append]
  go_wp2_with fail
  refine ((arNew_tr 64 (by decide)).use (Hb.out.mul1.to (SP.mul_comm _ _))).mono ?_
  rintro e w1 ⟨i, rfl, h1⟩
  have h2 := (h1.mapNew).boxNew (.map (some w1.heap.size)) 30
  rw [World.size_alloc] at h2
  obtain ⟨GB, hGB⟩ : ∃ GB, GB = pts w.heap.size (.cells #[.slice o1 fs.length c1, .slice o2 es.length c2] 25 (0, 0)) := ⟨_, rfl⟩
  obtain ⟨OB, hOB⟩ : ∃ OB, OB = boxP (w1.heap.size + 1) (.map (some w1.heap.size)) 30 := ⟨_, rfl⟩
  have h3 : St (ArenaP i ⟨64, fun _ => -1, fun _ => 0, fun _ => 0, fun _ => false, 64⟩ * (RowP 36 (.slice none 0 0) (List.map refV []) * (MapP w1.heap.size 0 (fun _ => none) * (OB * GB)))) F ((w1.alloc (.map #[] 0)).alloc (.cells #[.map (some w1.heap.size)] 30)) := by
    rw [hGB, hOB, List.map_nil, ← RowP.nil, SP.one_mul]
    exact h2.to (by simp only [SP.mul_one]; simp only [SP.mul_assoc, SP.mul_left_comm, SP.mul_comm])
  have hG : ∀ (X : SP) (W : World), St (X * GB) F W → W.cell? ⟨w.heap.size, 0, none⟩ = some (.slice o1 fs.length c1) ∧ W.cell? ⟨w.heap.size, 1, none⟩ = some (.slice o2 es.length c2) := by
    intro X W hX
    rw [hGB, SP.mul_comm] at hX
    exact ⟨by rw [cell_of hX.at]; rfl, by rw [cell_of hX.at]; rfl⟩
  have HG := Lib.hid hG
  have HGB := Lib.hid hGB
  have HOB := Lib.hid hOB
  clear h1 h2 hG hGB hOB Hb
  have ⟨cg0, cg1⟩ := HG.out _ _ (h3.to (Q := (ArenaP i ⟨64, fun _ => -1, fun _ => 0, fun _ => 0, fun _ => false, 64⟩ * (RowP 36 (.slice none 0 0) (List.map refV []) * (MapP w1.heap.size 0 (fun _ => none) * OB))) * GB) (by simp only [SP.mul_assoc]))
  have H3 := Lib.hid h3
  clear h3
  obtain ⟨i0, hi, hz0, hz1, hz2⟩ := info_parts info_ref
  go_wp2_with fail
  generalize (w1.alloc (.map #[] 0)).alloc (.cells #[.map (some w1.heap.size)] 30) = w2 at *
  generalize w1.heap.size = mb at *
  generalize w.heap.size = gb at *
  clear cg0 cg1
  go_loopw [6, 25] (fun u6 u25 wr => ∃ (k : Nat) (A : Ar) (l : List Nat), k ≤ fs.length ∧ u25 = .int .i64 k ∧ Madek A l (fs.take k) ∧ St (ArenaP i A * (RowP 36 u6 (l.map refV) * (MapP mb 0 (fun _ => none) * (OB * GB)))) F wr) (fun _ v _ => fs.length - (intOf v).toNat)
  case atStart => exact ⟨0, _, [], Nat.zero_le _, rfl, Madek.begun, H3.out⟩
  case round =>
    obtain ⟨k, A, l, hk, rfl, hM, hs⟩ := hrel
    clear H3
    have Hs := Lib.hid hs
    have HM := Lib.hid hM
    clear hs hM
    by_cases hlt : k < fs.length
    · have hlt' : (k : Int) < fs.length := by omega
      obtain ⟨f, hf⟩ : ∃ f, fs[k]? = some f := ⟨fs[k], by simp [hlt]⟩
      obtain ⟨hf256, a, ho, hrd⟩ := H1.out k f hf
      have hc := Hs.out.rd hrd
      have htake : fs.take (k + 1) = fs.take k ++ [f] := by rw [List.take_add_one, hf]; rfl
      have Htake := Lib.hid htake
      have htm : Int.tmod (f : Int) 7 = ((f % 7 : Nat) : Int) := by rw [Int.tmod_eq_emod_of_nonneg (by omega)]; omega
      have hw1 : IntKind.u8.wrap ((f % 7 : Nat) : Int) = ((f % 7 : Nat) : Int) := by rw [IntKind.wrap_u8]; omega
      have hw2 : IntKind.i64.wrap ((f % 7 : Nat) : Int) = ((f % 7 : Nat) : Int) := by rw [IntKind.wrap_i64]; omega
      have hw3 : IntKind.i64.wrap ((k : Int) + 1) = ((k + 1 : Nat) : Int) := by rw [IntKind.wrap_i64]; omega
      have hk0 : 0 ≤ (k : Int) := by omega
      clear hf hrd htake
      subst ho
      go_wp2_with fail
      have hlk : (fs.take k).length < 40 := by rw [List.length_take]; omega
      refine ((cellNew_yes i A HM.out.wf (f % 7) (by omega) (HM.out.room hlk _)).use Hs.out).mono ?_
      rintro e w3 ⟨⟨p, q⟩, rfl, hx⟩
      obtain ⟨ht, h3⟩ := St.whm.1 hx
      have hM2 := HM.out.step hlk f ht
      have hr0 : 1 ≤ rf p (classOf ((f % 7 : Nat) : Int)) q := by unfold rf; omega
      clear hx ht Hs hc
      dsimp only at h3 hM2 ⊢
      generalize rf p (classOf ((f % 7 : Nat) : Int)) q = r at *
      generalize A.newed (classOf ((f % 7 : Nat) : Int)) p q (f % 7) = A2 at *
      have hrb : ((r : Int) == 0) = false := by rw [beq_eq_false_iff_ne]; omega
      rw [← Htake.out] at hM2
      have HM2 := Lib.hid hM2
      have HL : Hid (l.length < 40) := Lib.hid (by rw [HM.out.len]; exact hlk)
      clear hM2 HM hlk hr0
      have h4 : St (RowP 36 u6 (l.map refV) * (ArenaP i A2 * (MapP mb 0 (fun _ => none) * (OB * GB)))) F w3 := h3.to (SP.mul_left_comm _ _ _)
      have H4 := Lib.hid h4
      clear h3 h4
      go_wp2_with (at_builtin; refine wpList_append_st _ rfl (.tmp 45) (.tmp 47) 29 rfl 36 i0 (.int .i64 0) 8 Try.underlying29 hi hz0 hz1 hz2 rfl _ (l.map refV) rfl (H4.out.grown0 (World.grownBy_alloc _ _ none)) ⟨w3.heap.size, 0, none⟩ 1 1 [refV r] rfl rfl (box_cell w3 _ _) (one_one rfl) ?h63 ?hb ?_)
      case h63 => have := HL.out; simp only [maxLen, List.length_cons, List.length_nil, List.length_map]; omega
      case hb => have := HL.out; simp only [List.length_cons, List.length_nil, List.length_map]; omega
      intro v' w5 h5
      have h6 : St (ArenaP i A2 * (RowP 36 v' ((l ++ [r]).map refV) * (MapP mb 0 (fun _ => none) * (OB * GB)))) F w5 := by
        rw [List.map_append]
        exact h5.to (SP.mul_left_comm _ _ _)
      have H6 := Lib.hid h6
      clear h5 h6 H4
      go_wp2_with fail
      go_roundw
      case rel => exact ⟨k + 1, A2, l ++ [r], by omega, by go_num, HM2.out, H6.out⟩
      case measure => simp [intOf]; omega
    · obtain rfl : k = fs.length := by omega
      rw [List.take_length] at HM
      have ⟨_, cg1⟩ := HG.out _ _ (Hs.out.to (Q := (ArenaP i A * (RowP 36 u6 (l.map refV) * (MapP mb 0 (fun _ => none) * OB))) * GB) (by simp only [SP.mul_assoc]))
      obtain ⟨ol, cl, hv⟩ := (Hs.out.to (SP.mul_left_comm _ _ _)).rowSlice
      rw [List.length_map] at hv
      subst hv
      by_cases hl0 : l.length = 0
      · obtain rfl : l = [] := List.length_eq_zero_iff.1 hl0
        have c7 := (Hs.out.to (Q := boxP (mb + 1) (.map (some mb)) 30 * (ArenaP i A * (RowP 36 (.slice ol 0 cl) [] * (MapP mb 0 (fun _ => none) * GB)))) (by rw [HOB.out]; simp only [List.map_nil, List.length_nil]; simp only [SP.mul_assoc, SP.mul_left_comm, SP.mul_comm])).box
        have hE : ∀ W, St (ArenaP i A * (RowP 36 (.slice ol ([] : List Nat).length cl) (List.map refV []) * (MapP mb 0 (fun _ => none) * (OB * GB)))) F W → St (Marks [] * (ArenaP i A * (RowP 36 (.slice ol ([] : List Nat).length cl) (List.map refV []) * GroupP 36 mb (outG A [])))) F W := by
          intro W hW
          have h1 : St (MapP mb 0 (fun _ => none) * (ArenaP i A * RowP 36 (.slice ol ([] : List Nat).length cl) (List.map refV []) * (OB * GB))) F W := hW.to (by simp only [SP.mul_assoc, SP.mul_left_comm, SP.mul_comm])
          have h2 := h1.groupNew 36
          have e0 : (fun _ => [] : Int → List Value) = outG A [] := by funext x; unfold outG; simp
          rw [e0] at h2
          show St (1 * _) F W
          rw [SP.one_mul]
          exact (h2.to (Q := ArenaP i A * (RowP 36 (.slice ol ([] : List Nat).length cl) (List.map refV []) * GroupP 36 mb (outG A [])) * (OB * GB)) (by simp only [SP.mul_assoc, SP.mul_left_comm, SP.mul_comm])).drop
        have HE := Lib.hid hE
        clear hE
        by_cases he : es.length = 0
        · obtain rfl : es = [] := List.length_eq_zero_iff.1 he
          go_wp2_with fail
          refine wp_loop_once ?_
          go_wp2_with fail
          refine wp_loop_once ?_
          go_wp2_with fail
          go_quiet (fail)
          go_wp2_with fail
          refine leaves_marks (F := F) (Q := ArenaP i A * (RowP 36 (.slice ol ([] : List Nat).length cl) (List.map refV []) * GroupP 36 mb (outG A []))) (fun w' hw' => ⟨_, results_tmp3 rfl _ _ _, i, A, [], .slice ol 0 cl, mb, HM.out, rfl, hw'⟩) [] _ ?_
          exact HE.out _ (Hs.out.drewN _)
        · have hlt : 0 < es.length := by omega
          have hlt' : (0 : Int) < es.length := by omega
          obtain ⟨x, hx⟩ : ∃ x, es[0]? = some x := ⟨es[0], by simp [hlt]⟩
          obtain ⟨_, a, ho, r1, r2, r3⟩ := H2.out 0 x hx
          have cx1 := Hs.out.rd r1
          have cx2 : wr.cell? ⟨a.block, a.off + 1, none⟩ = some (.int .u16 x.2.1) := Hs.out.rd r2
          have cx3 : wr.cell? ⟨a.block, a.off + 2, none⟩ = some (.int .u16 x.2.2) := Hs.out.rd r3
          have cx1' : wr.cell? a = some (.int .u16 x.1) := Hs.out.rd r1
          have c7' := (((Hs.out.grown0 (World.grownBy_alloc wr (.cells #[.int .u16 x.1, .int .u16 x.2.1, .int .u16 x.2.2] 85) none)).to (Q := boxP (mb + 1) (.map (some mb)) 30 * (ArenaP i A * (RowP 36 (.slice ol 0 cl) [] * (MapP mb 0 (fun _ => none) * GB)))) (by rw [HOB.out]; simp only [List.map_nil, List.length_nil]; simp only [SP.mul_assoc, SP.mul_left_comm, SP.mul_comm]))).box
          subst ho
          clear r1 r2 r3 hx
          go_wp2_with fail
          refine wp_loop_once ?_
          go_wp2_with fail
          refine wp_loop_once ?_
          go_wp2_with fail
          go_quiet (fail)
          go_wp2_with fail
          refine leaves_marks (F := F) (Q := ArenaP i A * (RowP 36 (.slice ol ([] : List Nat).length cl) (List.map refV []) * GroupP 36 mb (outG A []))) (fun w' hw' => ⟨_, results_tmp3 rfl _ _ _, i, A, [], .slice ol 0 cl, mb, HM.out, rfl, hw'⟩) [] _ ?_
          exact HE.out _ ((Hs.out.grown0 (World.grownBy_alloc wr _ none)).drewN _)
      · have hlb : ((l.length : Int) == 0) = false := by rw [beq_eq_false_iff_ne]; omega
        go_wp2_with fail
        clear cg1
        go_loopw [53] (fun v wr => ∃ (k : Nat) (A : Ar), k ≤ es.length ∧ v = .int .i64 k ∧ Madek A l fs ∧ St (ArenaP i A * (RowP 36 (.slice ol l.length cl) (l.map refV) * (MapP mb 0 (fun _ => none) * (OB * GB)))) F wr) (fun v _ => es.length - (intOf v).toNat)
        case atStart => exact ⟨0, A, Nat.zero_le _, rfl, HM.out, Hs.out⟩
        case round =>
          clear HM Hs
          obtain ⟨k, A, hk, rfl, hM, hs⟩ := hrel
          have Hs := Lib.hid hs
          have HM := Lib.hid hM
          clear hs hM
          by_cases hlt : k < es.length
          · have hlt' : (k : Int) < es.length := by omega
            obtain ⟨x, hx⟩ : ∃ x, es[k]? = some x := ⟨es[k], by simp [hlt]⟩
            obtain ⟨⟨hx1, hx2, hx3⟩, a, ho, r1, r2, r3⟩ := H2.out k x hx
            have cx1 := Hs.out.rd r1
            have cx2 : wr.cell? ⟨(a.add (k * 3)).block, (a.add (k * 3)).off + 1, none⟩ = some (.int .u16 x.2.1) := Hs.out.rd r2
            have cx3 : wr.cell? ⟨(a.add (k * 3)).block, (a.add (k * 3)).off + 2, none⟩ = some (.int .u16 x.2.2) := Hs.out.rd r3
            have hk0 : 0 ≤ (k : Int) := by omega
            have hw3 : IntKind.i64.wrap ((k : Int) + 1) = ((k + 1 : Nat) : Int) := by rw [IntKind.wrap_i64]; omega
            subst ho
            clear hx r1 r2 r3
            go_wp2_with fail
            have hsa := Hs.out.grown0 (World.grownBy_alloc wr (.cells #[.int .u16 x.1, .int .u16 x.2.1, .int .u16 x.2.2] 85) none)
            have hca : St (pts wr.heap.size (.cells #[.int .u16 x.1, .int .u16 x.2.1, .int .u16 x.2.2] 85 (0, 0)) * (ArenaP i A * (RowP 36 (.slice ol l.length cl) (l.map refV) * (MapP mb 0 (fun _ => none) * (OB * GB))))) F (wr.alloc (.cells #[.int .u16 x.1, .int .u16 x.2.1, .int .u16 x.2.2] 85)) := Hs.out.alloc _
            obtain ⟨rx, hrx⟩ : ∃ r, l[x.1 % l.length]? = some r := ⟨l[x.1 % l.length]'(Nat.mod_lt _ (by omega)), by simp [Nat.mod_lt _ (show 0 < l.length by omega)]⟩
            obtain ⟨ry, hry⟩ : ∃ r, l[x.2.1 % l.length]? = some r := ⟨l[x.2.1 % l.length]'(Nat.mod_lt _ (by omega)), by simp [Nat.mod_lt _ (show 0 < l.length by omega)]⟩
            obtain ⟨g, e1, crx⟩ := (hsa.to (SP.mul_left_comm _ _ _)).refAt hrx
            obtain ⟨g', e2, cry⟩ := (hsa.to (SP.mul_left_comm _ _ _)).refAt hry
            subst e1
            cases e2
            have ht1 : Int.tmod (x.1 : Int) l.length = ((x.1 % l.length : Nat) : Int) := by rw [Int.tmod_eq_emod_of_nonneg (by omega)]; omega
            have ht2 : Int.tmod (x.2.1 : Int) l.length = ((x.2.1 % l.length : Nat) : Int) := by rw [Int.tmod_eq_emod_of_nonneg (by omega)]; omega
            have hi1 : x.1 % l.length < l.length := Nat.mod_lt _ (by omega)
            have hi2 : x.2.1 % l.length < l.length := Nat.mod_lt _ (by omega)
            have Hca := Lib.hid hca
            have Hrx := Lib.hid hrx
            have Hry := Lib.hid hry
            have cb0 : (wr.alloc (.cells #[.int .u16 x.1, .int .u16 x.2.1, .int .u16 x.2.2] 85)).cell? ⟨wr.heap.size, 0, none⟩ = some (.int .u16 x.1) := by rw [cell_of hca.at]; rfl
            have cb1 : (wr.alloc (.cells #[.int .u16 x.1, .int .u16 x.2.1, .int .u16 x.2.2] 85)).cell? ⟨wr.heap.size, 1, none⟩ = some (.int .u16 x.2.1) := by rw [cell_of hca.at]; rfl
            clear hca hsa hrx hry cx1 cx2 cx3
            generalize hwa : wr.alloc (.cells #[.int .u16 x.1, .int .u16 x.2.1, .int .u16 x.2.2] 85) = wa at *
            go_quiet (fail)
            have hS : St (pts wr.heap.size (.cells #[.int .u16 x.1, .int .u16 x.2.1, .int .u16 x.2.2] 85 (0, 0)) * (ArenaP i A * (RowP 36 (.slice (some ⟨g, 0, none⟩) l.length cl) (l.map refV) * (MapP mb 0 (fun _ => none) * (OB * GB))))) F (wa.drewN nq) := Hca.out.drewN nq
            have hmx : rx ∈ l := List.mem_iff_getElem?.2 ⟨_, Hrx.out⟩
            have hmy : ry ∈ l := List.mem_iff_getElem?.2 ⟨_, Hry.out⟩
            obtain ⟨f, hO, _⟩ := HM.out.obj hmx
            clear Hca cb0 cb1 crx cry hwa
            generalize wa.drewN nq = wb at *
            clear Hs
            generalize wr.heap.size = bb at *
            have hf := (fields_tr i A rx (f % 7) hO).use (hS.to (SP.mul_left_comm _ _ _))
            have HO := Lib.hid hO
            have Hmy := Lib.hid hmy
            clear hS hO hmx hmy ht1 ht2 hi1 hi2 Hrx Hry
            have hn7 : f % 7 < 7 := Nat.mod_lt _ (by decide)
            generalize f % 7 = n at *
            go_wp2_with fail
            refine hf.mono ?_
            clear hf
            rintro e w4 ⟨rfl, h4⟩
            have cb2 : w4.cell? ⟨bb, 2, none⟩ = some (.int .u16 x.2.2) := by
              rw [cell_of (h4.to (SP.mul_left_comm _ _ _)).at]; rfl
            by_cases hn : n = 0
            · have hnb : ¬ (0 : Int) < n := by omega
              have h5 : St (ArenaP i A * (RowP 36 (.slice (some ⟨g, 0, none⟩) l.length cl) (l.map refV) * (MapP mb 0 (fun _ => none) * (OB * GB)))) F w4 := (h4.to (SP.mul_left_comm _ _ _)).drop2
              have H5 := Lib.hid h5
              clear h4 h5
              go_wp2_with fail
              go_roundw
              case rel => exact ⟨k + 1, A, by omega, by go_num, HM.out, H5.out⟩
              case measure => simp [intOf]; omega
            · have hnb : (0 : Int) < n := by omega
              have ht3 : Int.tmod (x.2.2 : Int) n = ((x.2.2 % n : Nat) : Int) := by rw [Int.tmod_eq_emod_of_nonneg (by omega)]; omega
              have hj : x.2.2 % n < n := Nat.mod_lt _ (by omega)
              have hf := (setField_in i A rx n HO.out ((x.2.2 % n : Nat) : Int) ry (by omega) (by omega)).use h4
              rw [Int.toNat_natCast] at hf
              have hM2 := HM.out.set HO.out hj Hmy.out
              have HM2 := Lib.hid hM2
              have Hf := Lib.hid hf
              clear h4 hM2 hf
              go_wp2_with fail
              refine Hf.out.mono ?_
              rintro e w5 ⟨rfl, h5⟩
              have h6 : St (ArenaP i { A with wd := upd A.wd (rx + 1 + x.2.2 % n) (ry : Int) } * (RowP 36 (.slice (some ⟨g, 0, none⟩) l.length cl) (l.map refV) * (MapP mb 0 (fun _ => none) * (OB * GB)))) F w5 := (h5.to (SP.mul_left_comm _ _ _)).drop2
              have H6 := Lib.hid h6
              clear h5 h6 Hf cb2
              go_wp2_with fail
              go_roundw
              case rel => exact ⟨k + 1, _, by omega, by go_num, HM2.out, H6.out⟩
              case measure => simp [intOf]; omega
          · obtain rfl : k = es.length := by omega
            have hs0 : St (MapP mb 0 (fun _ => none) * (ArenaP i A * (RowP 36 (.slice ol l.length cl) (l.map refV) * OB * GB))) F wr := Hs.out.to (by simp only [SP.mul_assoc, SP.mul_left_comm, SP.mul_comm])
            have hs1 := hs0.groupNew 36
            have e0 : (fun _ => [] : Int → List Value) = outG A (l.take 0) := by funext x; unfold outG; simp
            rw [e0] at hs1
            have Hs1 := Lib.hid hs1
            clear hs0 hs1 e0 Hs
            go_wp2_with fail
            refine wp_loop_ghost_k (fun n a' w' => ∃ x18 x95 x96 x97 x98 x99 x100 x101 x111, ∃ (ds : List Nat), (∃ k : Nat, n + k = l.length ∧ x95 = .int .i64 k ∧
              St (GroupP 36 mb (outG A (l.take k)) * (ArenaP i A * (RowP 36 (.slice ol l.length cl) (l.map refV) * OB)) * Marks ds) F w') ∧ a' = { tmps := List.toArray ((.agg #[.slice o1 fs.length c1, .slice o2 es.length c2] : Value) :: (.pointer (some ⟨gb, 0, none⟩) : Value) :: u2 :: u3 :: u4 :: (.pointer (some ⟨i.a, 0, none⟩) : Value) :: (.slice ol l.length cl : Value) :: (.pointer (some ⟨mb + 1, 0, none⟩) : Value) :: undef :: u9 :: u10 :: u11 :: undef :: u13 :: u14 :: u15 :: u16 :: undef :: x18 :: undef :: (.pointer (some ⟨i.a, 0, none⟩) : Value) :: (.map (some mb) : Value) :: (.pointer (some ⟨gb, 0, none⟩) : Value) :: (.slice o1 fs.length c1 : Value) :: (.int .i64 fs.length : Value) :: (.int .i64 fs.length : Value) :: (.bool false : Value) :: u27 :: u28 :: u29 :: u30 :: u31 :: u32 :: u33 :: u34 :: u35 :: u36 :: u37 :: u38 :: u39 :: u40 :: u41 :: u42 :: u43 :: u44 :: u45 :: u46 :: u47 :: u48 :: u49 :: (.pointer (some ⟨gb, 1, none⟩) : Value) :: (.slice o2 es.length c2 : Value) :: (.int .i64 es.length : Value) :: (.int .i64 es.length : Value) :: (.bool false : Value) :: u55 :: u56 :: u57 :: u58 :: u59 :: u60 :: u61 :: u62 :: u63 :: u64 :: u65 :: u66 :: u67 :: u68 :: u69 :: u70 :: u71 :: u72 :: u73 :: u74 :: u75 :: u76 :: u77 :: u78 :: u79 :: u80 :: u81 :: u82 :: u83 :: u84 :: u85 :: u86 :: u87 :: u88 :: u89 :: u90 :: u91 :: u92 :: (.slice ol l.length cl : Value) :: (.int .i64 l.length : Value) :: x95 :: x96 :: x97 :: x98 :: x99 :: x100 :: x101 :: undef :: undef :: undef :: undef :: undef :: undef :: undef :: undef :: undef :: x111 :: undef :: undef :: undef :: []), defers := ds.map dmk }) l.length ?_ ?_
            · refine ⟨_, _, _, _, _, _, _, _, _, [], ⟨0, rfl, rfl, ?_⟩, rfl⟩
              exact (Hs1.out.to (Q := GroupP 36 mb (outG A (l.take 0)) * (ArenaP i A * (RowP 36 (.slice ol l.length cl) (l.map refV) * OB)) * 1 * GB) (by rw [SP.mul_one]; simp only [SP.mul_assoc])).drop
            · intro n _ w3 hinv J KK hJ hK
              obtain ⟨x18, x95, x96, x97, x98, x99, x100, x101, x111, ds, ⟨k, hk, rfl, hs⟩, rfl⟩ := hinv
              clear Hs1
              have Hs := Lib.hid hs
              clear hs
              by_cases hlt : k < l.length
              · have hlt' : (k : Int) < l.length := by omega
                have hk0 : 0 ≤ (k : Int) := by omega
                have hw3 : IntKind.i64.wrap ((k : Int) + 1) = ((k + 1 : Nat) : Int) := by have := HM.out.len; rw [IntKind.wrap_i64]; omega
                obtain ⟨rx, hrx⟩ : ∃ r, l[k]? = some r := ⟨l[k], by simp [hlt]⟩
                have hmx : rx ∈ l := List.mem_iff_getElem?.2 ⟨_, hrx⟩
                obtain ⟨f, hO, _⟩ := HM.out.obj hmx
                have htake : l.take (k + 1) = l.take k ++ [rx] := by rw [List.take_add_one, hrx]; rfl
                have hnew : rx ∉ l.take k := by
                  have := HM.out.nd
                  intro hm
                  have h2 : (l.take (k + 1)).Nodup := List.Sublist.nodup (List.take_sublist _ _) this
                  rw [htake, List.nodup_append] at h2
                  exact h2.2.2 rx hm rx (by simp) rfl
                obtain ⟨g, e1, crx⟩ := (Hs.out.to (Q := RowP 36 (.slice ol l.length cl) (l.map refV) * (GroupP 36 mb (outG A (l.take k)) * (ArenaP i A * OB) * Marks ds)) (by simp only [SP.mul_assoc, SP.mul_left_comm, SP.mul_comm])).refAt hrx
                have cxa := ((Hs.out.boxNew (.int .i64 rx) 36)).box
                have hb := Hs.out.boxNew (.int .i64 rx) 36
                have Hb := Lib.hid hb
                have HO := Lib.hid hO
                have Htake := Lib.hid htake
                have Hnew := Lib.hid hnew
                have Hk := Lib.hid hk
                clear hb hO htake hnew hmx hrx hk Hs
                subst e1
                go_wp2_with fail
                generalize w3.alloc (.cells #[.int .i64 rx] 36) = w4 at *
                generalize w3.heap.size = xb at *
                clear crx cxa
                refine ((points_tr i.a rx).use (Hb.out.mul1.to (SP.mul_comm _ _))).mono ?_
                rintro e w5 ⟨⟨k1, k2⟩, rfl, h5⟩
                clear Hb
                have h6 : St (boxP k1 (.pointer (some ⟨i.a, 0, none⟩)) 28 * (boxP k2 (.int .i64 rx) 36 * (ArenaP i A * (GroupP 36 mb (updI (outG A (l.take k)) rx (ptsV A rx 0)) * (OB * (boxP xb (.int .i64 rx) 36 * RowP 36 (.slice (some ⟨g, 0, none⟩) l.length cl) (l.map refV)))))) * Marks ds) F w5 := by
                  rw [show ptsV A rx 0 = [] from rfl, updI_self (outG_new Hnew.out)]
                  exact h5.to (by simp only [SP.mul_assoc, SP.mul_left_comm, SP.mul_comm])
                have H6 := Lib.hid h6
                clear h5 h6
                dsimp only
                go_wp2_with fail
                have hmx : Try.prog.follows .mixedOrders = true := by kernel_rfl
                refine rangeFunc_sl ds (points1_it i A rx (f % 7) k1 k2 HO.out (fun j => GroupP 36 mb (updI (outG A (l.take k)) rx (ptsV A rx j)) * (OB * (boxP xb (.int .i64 rx) 36 * RowP 36 (.slice (some ⟨g, 0, none⟩) l.length cl) (l.map refV)))) ?skip) rfl (enters_of Try.func94 (by kernel_rfl) rfl) (fun _ _ => rfl) (fun _ => SP.wh False 1) ?act H6.out ?assign ?body ?done ?stop
                case skip =>
                  intro j x h0 hx
                  rw [ptsV_skip h0]
                  exact hx
                case assign =>
                  intro l2 x W K hx hKK
                  have HKK := Lib.hid hKK
                  clear hKK
                  gi_wp2
                  exact HKK.out
                case body =>
                  rintro l2 j F' W ⟨hj, hy⟩ _ h7
                  obtain ⟨Z, hZ⟩ : ∃ Z, Z = boxP xb (.int .i64 rx) 36 * RowP 36 (.slice (some ⟨g, 0, none⟩) l.length cl) (l.map refV) := ⟨_, rfl⟩
                  rw [← hZ] at h7 ⊢
                  have h8 := (h7.to (SP.mul_left_comm _ _ _)).groupOpen rx
                  obtain ⟨nm, fm, X, h9, hclose⟩ := h8
                  have hclose' := hclose
                  have HC := Lib.hid hclose
                  clear hclose hclose'
                  generalize hv0 : (fm rx).getD (.slice none 0 0) = v0 at *
                  have hgr : updI (outG A (l.take k)) (rx : Int) (ptsV A rx j) rx = ptsV A rx j := by simp [updI]
                  rw [hgr] at h9
                  have hlen : (ptsV A rx j).length ≤ 6 := by have := ptsV_len A rx j; omega
                  have cO : ∀ (Y : SP) (W : World), St (Y * (X * (ArenaP i A * (OB * Z)))) F' W → W.cell? ⟨mb + 1, 0, none⟩ = some (.map (some mb)) ∧ W.cell? ⟨xb, 0, none⟩ = some (.int .i64 rx) := by
                    intro Y W hY
                    rw [HOB.out, hZ] at hY
                    exact ⟨(hY.to (Q := boxP (mb + 1) (.map (some mb)) 30 * (Y * (X * (ArenaP i A * (boxP xb (.int .i64 rx) 36 * RowP 36 (.slice (some ⟨g, 0, none⟩) l.length cl) (l.map refV)))))) (by simp only [SP.mul_assoc, SP.mul_left_comm, SP.mul_comm])).box,
                      (hY.to (Q := boxP xb (.int .i64 rx) 36 * (Y * (X * (ArenaP i A * (boxP (mb + 1) (.map (some mb)) 30 * RowP 36 (.slice (some ⟨g, 0, none⟩) l.length cl) (l.map refV)))))) (by simp only [SP.mul_assoc, SP.mul_left_comm, SP.mul_comm])).box⟩
                  obtain ⟨ir, hir, hrz, _, _⟩ := info_parts info_refs
                  have h10 := h9.alloc (.cells #[.int .i64 (A.wd (rx + 1 + j))] 36)
                  have h11a := h10.drop2
                  have h11 := h11a.drew
                  have h9d := h9.drew
                  have hl1 := (h9d.to (SP.mul_left_comm _ _ _)).look (P := Try.prog) Try.underlying30 Try.underlying36 hir hrz (rx : Int)
                  have hl2 := (h11.to (SP.mul_left_comm _ _ _)).look (P := Try.prog) Try.underlying30 Try.underlying36 hir hrz (rx : Int)
                  rw [hv0] at hl1 hl2
                  obtain ⟨v1, w6, hap, h12⟩ := run_append_st (P := Try.prog) (W.alloc (.cells #[.int .i64 (A.wd (rx + 1 + j))] 36)).drew 29 29 36 i0 (.int .i64 0) 8 Try.underlying29 hi hz0 hz1 hz2 rfl v0 (ptsV A rx j) h11 ⟨W.heap.size, 0, none⟩ 1 [.int .i64 (A.wd (rx + 1 + j))] (fun j x h => box_cell W _ _ j x h) (one_one rfl) (by simp only [maxLen, List.length_cons, List.length_nil]; omega) (by simp only [List.length_cons, List.length_nil]; omega)
                  obtain ⟨w7, hput, h13⟩ := (h12.to (SP.mul_left_comm _ _ _)).put (P := Try.prog) Try.underlying30 Try.underlying36 (rx : Int) v1
                  have h14 := HC.out v1 _ _ _ _ (h13.to (SP.mul_left_comm _ _ _))
                  rw [updI_updI, ← ptsV_one hy] at h14
                  have H14 := Lib.hid (h14.to (SP.mul_left_comm _ _ _))
                  have ⟨cA, cB⟩ := cO _ _ (h9.to (SP.mul_assoc _ _ _).symm)
                  have ⟨cC, cD⟩ := cO _ _ (h11.to (SP.mul_assoc _ _ _).symm)
                  have ⟨cG, cH⟩ := cO _ _ (h9d.to (SP.mul_assoc _ _ _).symm)
                  have ⟨cI, cJ⟩ := cO _ _ (h11a.to (SP.mul_assoc _ _ _).symm)
                  have ⟨cK, cL⟩ := cO _ _ (h13.to (SP.mul_assoc _ _ _).symm)
                  have ⟨cE, cF⟩ := cO _ _ (h12.to (SP.mul_assoc _ _ _).symm)
                  clear h7 h9 h9d h10 h11 h11a h12 h13 h14 cO hv0 hgr HC
                  gi_wp2_with fail
                  refine wpIn_round_held (fun W' => W'.cell? ⟨mb + 1, 0, none⟩ = some (.map (some mb)) ∧ W'.cell? ⟨xb, 0, none⟩ = some (.int .i64 rx)) hmx (by rintro ⟨_, _, h⟩; exact h) (by kernel_rfl) ?_
                  refine wpAnyH_take (i := 0) (v := .map (some mb)) rfl (by kernel_rfl) (by kernel_rfl) (by kernel_rfl) (fun _ _ _ h => h) (.inl ⟨rfl, fun W' hW => by obtain ⟨q1, q2⟩ := hW; go_simp⟩) ⟨cG, cH⟩ ?_
                  refine wpAnyH_take (i := 1) (v := .int .i64 rx) rfl (by kernel_rfl) (by kernel_rfl) (by kernel_rfl) (fun _ _ _ h => h) (.inl ⟨rfl, fun W' hW => by obtain ⟨q1, q2⟩ := hW; go_simp⟩) ⟨cG, cH⟩ ?_
                  refine wpAnyH_take (i := 2) (v := .map (some mb)) rfl (by kernel_rfl) (by kernel_rfl) (by kernel_rfl) (fun _ _ _ h => h) (.inl ⟨rfl, fun W' hW => by obtain ⟨q1, q2⟩ := hW; go_simp⟩) ⟨cG, cH⟩ ?_
                  refine wpAnyH_take (i := 3) (v := .int .i64 rx) rfl (by kernel_rfl) (by kernel_rfl) (by kernel_rfl) (fun _ _ _ h => h) (.inl ⟨rfl, fun W' hW => by obtain ⟨q1, q2⟩ := hW; go_simp⟩) ⟨cG, cH⟩ ?_
                  refine wpAnyH_take (i := 5) (v := .int .i64 (A.wd (rx + 1 + j))) rfl (by kernel_rfl) (by kernel_rfl) (by kernel_rfl) (fun _ _ _ h => h) (.inl ⟨rfl, fun W' hW => by obtain ⟨q1, q2⟩ := hW; go_simp⟩) ⟨cG, cH⟩ ?_
                  refine wpAnyH_all (rs := [4, 6]) (by kernel_rfl) (by simp) (fun q hq => ?_)
                  rcases (by simpa using hq : q = 4 ∨ q = 6) with rfl | rfl
                  · refine wpOp_step rfl (fun K' hK' => ?_)
                    go_simp
                    refine hK' _ _ ⟨⟨cG, cH⟩, ?_⟩
                    clear hK' K'
                    refine wpAnyH_all (rs := [6]) (by kernel_rfl) (by simp) (fun q hq => ?_)
                    obtain rfl : q = 6 := by simpa using hq
                    refine wpOp_step rfl (fun K' hK' => ?_)
                    go_simp
                    refine hK' _ _ ⟨⟨cC, cD⟩, ?_⟩
                    clear hK' K'
                    refine wpAnyH_all (rs := [7]) (by kernel_rfl) (by simp) (fun q hq => ?_)
                    obtain rfl : q = 7 := by simpa using hq
                    refine wpOp_step rfl (fun K' hK' => ?_)
                    refine step_append rfl _ _ _ rfl rfl rfl hap ?_
                    refine hK' _ _ ⟨⟨cE, cF⟩, ?_⟩
                    clear hK' K'
                    refine wpAnyH_all (rs := [8]) (by kernel_rfl) (by simp) (fun q hq => ?_)
                    obtain rfl : q = 8 := by simpa using hq
                    refine wpOp_step rfl (fun K' hK' => ?_)
                    go_simp
                    refine hK' _ _ ⟨⟨cK, cL⟩, ?_⟩
                    clear hK' K'
                    refine wpAnyH_done (by kernel_rfl) ?_ _
                    exact H14.out
                  · refine wpOp_step rfl (fun K' hK' => ?_)
                    go_simp
                    refine hK' _ _ ⟨⟨cC, cD⟩, ?_⟩
                    clear hK' K'
                    refine wpAnyH_all (rs := [4]) (by kernel_rfl) (by simp) (fun q hq => ?_)
                    obtain rfl : q = 4 := by simpa using hq
                    refine wpOp_step rfl (fun K' hK' => ?_)
                    go_simp
                    refine hK' _ _ ⟨⟨cC, cD⟩, ?_⟩
                    clear hK' K'
                    refine wpAnyH_all (rs := [7]) (by kernel_rfl) (by simp) (fun q hq => ?_)
                    obtain rfl : q = 7 := by simpa using hq
                    refine wpOp_step rfl (fun K' hK' => ?_)
                    refine step_append rfl _ _ _ rfl rfl rfl hap ?_
                    refine hK' _ _ ⟨⟨cE, cF⟩, ?_⟩
                    clear hK' K'
                    refine wpAnyH_all (rs := [8]) (by kernel_rfl) (by simp) (fun q hq => ?_)
                    obtain rfl : q = 8 := by simpa using hq
                    refine wpOp_step rfl (fun K' hK' => ?_)
                    go_simp
                    refine hK' _ _ ⟨⟨cK, cL⟩, ?_⟩
                    clear hK' K'
                    refine wpAnyH_done (by kernel_rfl) ?_ _
                    exact H14.out
                case done =>
                  intro d W h
                  rw [outG_step HO.out, ← Htake.out] at h
                  have h8 : St (GroupP 36 mb (outG A (l.take (k + 1))) * (ArenaP i A * (RowP 36 (.slice (some ⟨g, 0, none⟩) l.length cl) (l.map refV) * OB)) * Marks (d :: ds)) F W :=
                    (h.to (Q := GroupP 36 mb (outG A (l.take (k + 1))) * (ArenaP i A * (RowP 36 (.slice (some ⟨g, 0, none⟩) l.length cl) (l.map refV) * OB)) * Marks (d :: ds) * boxP xb (.int .i64 rx) 36) (by simp only [SP.mul_assoc, SP.mul_left_comm, SP.mul_comm])).drop
                  have H8 := Lib.hid h8
                  clear h h8
                  go_wp2_with fail
                  refine Handed.intro (n - 1) (by have := Hk.out; omega) (hJ _ _ _ ⟨_, _, _, _, _, _, _, _, _, d :: ds, ⟨k + 1, by have := Hk.out; omega, by go_num, H8.out⟩, rfl⟩)
                case stop =>
                  intro c d W h
                  exact (St.whm.1 h).1.elim
              · obtain rfl : k = l.length := by omega
                have c7 := (Hs.out.to (Q := boxP (mb + 1) (.map (some mb)) 30 * (GroupP 36 mb (outG A (l.take l.length)) * (ArenaP i A * RowP 36 (.slice ol l.length cl) (l.map refV)) * Marks ds)) (by rw [HOB.out]; simp only [SP.mul_assoc, SP.mul_left_comm, SP.mul_comm])).box
                have h8 : St (Marks ds * (ArenaP i A * (RowP 36 (.slice ol l.length cl) (l.map refV) * GroupP 36 mb (outG A l)))) F w3 := by
                  have h9 := Hs.out
                  rw [List.take_length] at h9
                  exact (h9.to (Q := Marks ds * (ArenaP i A * (RowP 36 (.slice ol l.length cl) (l.map refV) * GroupP 36 mb (outG A l))) * OB) (by simp only [SP.mul_assoc, SP.mul_left_comm, SP.mul_comm])).drop
                have H8 := Lib.hid h8
                clear h8 Hs
                go_wp2_with fail
                go_quiet (fail)
                go_wp2_with fail
                refine leaves_marks (F := F) (Q := ArenaP i A * (RowP 36 (.slice ol l.length cl) (l.map refV) * GroupP 36 mb (outG A l))) (fun w' hw' => ⟨_, results_tmp3 rfl _ _ _, i, A, l, .slice ol l.length cl, mb, HM.out, rfl, hw'⟩) ds _ ?_
                exact (H8.out.drewN _)
end Go.Proofs.Ytknmlfolbapmpaa
