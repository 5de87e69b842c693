import Derived.Test.YtknmlfolbapmpaaSl
import Derived.Laws.AppendOwnNone
import Derived.OwnWalkIn
namespace Go.Proofs.Ytknmlfolbapmpaa
open Go Go.RowKit

/-- A row of cells that a function gives. -/
def row (m : Nat) (f : Nat → Value) : Array Value := ((List.range m).map f).toArray
theorem row_size (m : Nat) (f : Nat → Value) : (row m f).size = m := by simp [row]
theorem row_get {m i : Nat} (f : Nat → Value) (h : i < m) : (row m f)[i]? = some (f i) := by simp [row, h]
theorem row_set (m : Nat) (f : Nat → Value) (i : Nat) (v : Value) : (row m f).setIfInBounds i v = row m fun k => if k = i then v else f k := by
  apply Array.ext
  · simp [row]
  · intro k h1 h2
    simp only [row, List.size_toArray, List.length_map, List.length_range, Array.size_setIfInBounds] at h1
    rw [Array.getElem_setIfInBounds (by simpa [row] using h1)]
    by_cases e : i = k
    · subst e; simp [row]
    · rw [if_neg e]
      simp [row, show ¬ k = i from fun h => e h.symm]
theorem row_congr {m : Nat} {f g : Nat → Value} (h : ∀ i, i < m → f i = g i) : row m f = row m g := by
  apply Array.ext
  · simp [row]
  · intro k h1 h2
    simp only [row, List.size_toArray, List.length_map, List.length_range] at h1
    simp [row, h k h1]

/-- A slice of the call's own, of elements of one cell each. -/
def RowP (E : TypeId) (v : Value) (xs : List Value) : SP := fun h => (v = .slice none 0 0 ∧ xs = [] ∧ h = Hp.none) ∨
  ∃ g cap cur, v = .slice (some ⟨g, 0, none⟩) xs.length cap ∧ h = Hp.one g (.cells cur E (0, 0)) ∧ xs.length ≤ cap ∧ cap ≤ maxLen ∧ cur.size = cap ∧ cur.toList.take xs.length = xs

theorem RowP.nil (E : TypeId) : (1 : SP) = RowP E (.slice none 0 0) [] := by
  apply SP.ext
  intro h
  constructor
  · intro e; exact .inl ⟨rfl, rfl, e⟩
  · rintro (⟨_, _, e⟩ | ⟨g, cap, cur, e, _⟩)
    · exact e
    · cases e
theorem St.rowForm {E : TypeId} {v : Value} {xs : List Value} {R : SP} {F : Fr} {w : World} (h : St (RowP E v xs * R) F w) :
    (v = .slice none 0 0 ∧ xs = [] ∧ St R F w) ∨ ∃ g cap cur, v = .slice (some ⟨g, 0, none⟩) xs.length cap ∧ St (pts g (.cells cur E (0, 0)) * R) F w ∧ xs.length ≤ cap ∧ cap ≤ maxLen ∧ cur.size = cap ∧ cur.toList.take xs.length = xs := by
  obtain ⟨x, ⟨a, b, ha, hb, d, rfl⟩, r⟩ := h
  rcases ha with ⟨rfl, rfl, rfl⟩ | ⟨g, cap, cur, rfl, rfl, h1, h2, h3, h4⟩
  · exact .inl ⟨rfl, rfl, b, hb, r⟩
  · exact .inr ⟨g, cap, cur, rfl, ⟨_, ⟨_, b, rfl, hb, d, rfl⟩, r⟩, h1, h2, h3, h4⟩
theorem St.rowMk {E : TypeId} {g cap : Nat} {cur : Array Value} {xs : List Value} {R : SP} {F : Fr} {w : World} (h : St (pts g (.cells cur E (0, 0)) * R) F w) (h1 : xs.length ≤ cap) (h2 : cap ≤ maxLen) (h3 : cur.size = cap) (h4 : cur.toList.take xs.length = xs) :
    St (RowP E (.slice (some ⟨g, 0, none⟩) xs.length cap) xs * R) F w :=
  h.impm fun _ e => by cases e; exact .inr ⟨g, cap, cur, rfl, rfl, h1, h2, h3, h4⟩
theorem take_get {α : Type} {l xs : List α} (h : l.take xs.length = xs) {i : Nat} {x : α} (hi : xs[i]? = some x) : l[i]? = some x := by
  rw [← h, List.getElem?_take] at hi
  split at hi
  · exact hi
  · cases hi
/-- The cells of a row. -/
theorem St.rowCell {E : TypeId} {v : Value} {xs : List Value} {R : SP} {F : Fr} {w : World} (h : St (RowP E v xs * R) F w) {i : Nat} {x : Value} (hi : xs[i]? = some x) :
    ∃ g cap, v = .slice (some ⟨g, 0, none⟩) xs.length cap ∧ w.cell? ⟨g, i, none⟩ = some x ∧ w.frozen? ⟨g, i, none⟩ = false := by
  rcases h.rowForm with ⟨rfl, rfl, _⟩ | ⟨g, cap, cur, rfl, h, h1, h2, h3, h4⟩
  · simp at hi
  · refine ⟨g, cap, rfl, ?_, frozen_of h.at⟩
    rw [cell_of h.at]
    have := take_get h4 hi
    simpa using this
theorem St.rowSlice {E : TypeId} {v : Value} {xs : List Value} {R : SP} {F : Fr} {w : World} (h : St (RowP E v xs * R) F w) : ∃ o cap, v = .slice o xs.length cap := by
  rcases h.rowForm with ⟨rfl, rfl, _⟩ | ⟨g, cap, cur, rfl, _⟩
  · exact ⟨_, _, rfl⟩
  · exact ⟨_, _, rfl⟩
/-- A store into a row. -/
theorem St.rowSet {E : TypeId} {g cap : Nat} {xs : List Value} {R : SP} {F : Fr} {w : World} (h : St (RowP E (.slice (some ⟨g, 0, none⟩) xs.length cap) xs * R) F w) (i : Nat) (x : Value) :
    St (RowP E (.slice (some ⟨g, 0, none⟩) xs.length cap) (xs.set i x) * R) F (w.setCell ⟨g, i, none⟩ x) := by
  rcases h.rowForm with ⟨e, _⟩ | ⟨g', cap', cur, e, h, h1, h2, h3, h4⟩
  · cases e
  · cases e
    have hl : (xs.set i x).length = xs.length := List.length_set
    have := (h.set (off := i) (v := x)).rowMk (xs := xs.set i x) (by rw [hl]; exact h1) h2 (by simpa using h3) (by
      rw [hl]
      simp only [Array.toList_setIfInBounds]
      rw [List.take_set, h4])
    rw [hl] at this
    exact this

/-- A new block of one cell. -/
theorem box_cell (w : World) (u : Value) (E : TypeId) : ∀ j x, [u][j]? = some x → (w.alloc (.cells #[u] E)).cell? ((⟨w.heap.size, 0, none⟩ : Addr).add j) = some x := by
  intro j x h
  match j, h with
  | 0, h =>
    cases h
    exact (cell_of (off := 0) (heap_alloc_new w _)).trans rfl
  | j + 1, h => simp at h
theorem one_one {u : Value} (h : u.oneCell' = true) : ∀ x ∈ [u], x.oneCell' = true := by simpa using h

section
variable {P : Program}
/-- append onto a row of the call's own, what is appended being read from cells. -/
theorem run_append_st (w : World) (t ty E : TypeId) (i : TypeInfo) (z : Value) (bytes : Nat) (ht : P.underlying t = some (.slice E)) (hi : P.info? E = some i) (hz : i.zero = some z)
    (hsize : i.size = 1) (hby : i.bytes = bytes) (hzs : z.cells.size = 1) (v : Value) (xs : List Value) {R : SP} {F : Fr} (h : St (RowP E v xs * R) F w)
    (a : Addr) (c : Nat) (news : List Value) (hnews : ∀ j u, news[j]? = some u → w.cell? (a.add j) = some u) (h1 : ∀ u ∈ news, u.oneCell' = true)
    (h63 : xs.length + news.length ≤ maxLen) (hbytes : (xs.length + news.length) * bytes ≤ 140737488355328) :
    ∃ v' w', (Builtin.append_ #[t, t] ty #[v, .slice (some a) news.length c]).run P w = .ok v' w' ∧ St (RowP E v' (xs ++ news) * R) F w' := by
  subst hby
  have hsmall : ((xs.length + news.length : Nat) : Int) ≤ 9223372036854775807 := by simp only [maxLen] at h63; omega
  rcases h.rowForm with ⟨rfl, rfl, hr⟩ | ⟨g, cap, cur, rfl, hr, hc1, hc2, hc3, hc4⟩
  · by_cases hn : news = []
    · subst hn
      refine ⟨.slice none 0 0, w, ?_, h⟩
      simp [Builtin.append_, run_underlying ht, sizeOf, typeInfo, hi, Builtin.lenOf, Builtin.firstCells, loadCells, loadCellsFrom]
    · have h0 : 0 < news.length := List.length_pos_iff.2 hn
      have hrun := run_append_nil (P := P) w t ty E i z ht hi hz a news.length c news (by rw [hsize, Nat.mul_one]) hnews h0 (by simpa using hsmall) (by simp only [List.length_nil, Nat.zero_add] at hbytes; omega)
      have hg := grownCap_ge w news.length 0 E
      have hgm := grownCap_le_maxLen w news.length 0 E (by simpa using h63)
      refine ⟨_, _, hrun, ?_⟩
      have hs := (hr.drew.alloc (.cells (news.toArray ++ Builtin.zeroCells z.cells (grownCap w news.length 0 E - news.length)) E (0, 0))).rowMk (xs := news) (cap := grownCap w news.length 0 E) hg hgm
        (by simp only [Array.size_append, List.size_toArray, size_zeroCells, hzs]; omega) (by simp)
      exact hs
  · by_cases hroom : xs.length + news.length ≤ cap
    · have hrun := run_append_room (P := P) w t ty E i ht hi g xs.length cap cur hr.at a news.length c news (by rw [hsize, Nat.mul_one]) hnews h1 hroom (by rw [hsize]; omega)
      rw [hsize, Nat.mul_one, hc4] at hrun
      refine ⟨_, _, hrun, ?_⟩
      have hb := setRow_heap w g cur (xs ++ news ++ cur.toList.drop (xs.length + news.length)).toArray E (0, 0) hr.at
      have hgr : w.grownBy (w.setRow g (xs ++ news ++ cur.toList.drop (xs.length + news.length)).toArray) (some g) :=
        ⟨rfl, rfl, rfl, by simp, fun k _ hk => setRow_other w g k _ (fun e => hk (by rw [e]))⟩
      have hs := (hr.turn hgr hb).rowMk (xs := xs ++ news) (cap := cap) (by simpa using hroom) hc2 (by simp; omega) (by rw [List.toList_toArray]; exact List.take_left)
      rw [List.length_append] at hs
      exact hs
    · have hcell : ∀ j u, xs[j]? = some u → w.cell? ((⟨g, 0, none⟩ : Addr).add j) = some u := fun j u hu => by
        have hadd : (⟨g, 0, none⟩ : Addr).add j = ⟨g, j, none⟩ := by unfold Addr.add; split <;> simp_all
        rw [hadd, cell_of hr.at]
        simpa using take_get hc4 hu
      have hrun := run_append_grow (P := P) w t ty E i z ht hi hz ⟨g, 0, none⟩ xs.length cap xs (by rw [hsize, Nat.mul_one]) hcell a news.length c news (by rw [hsize, Nat.mul_one]) hnews (by omega) hsmall (growslice_fits (by omega) hbytes)
      have hge := grownCap_ge w (xs.length + news.length) cap E
      have hgm := grownCap_le_maxLen w (xs.length + news.length) cap E h63
      refine ⟨_, _, hrun, ?_⟩
      rw [SP.mul_comm] at hr
      have hs := (hr.drop.drew.alloc (.cells (xs.toArray ++ news.toArray ++ Builtin.zeroCells z.cells (grownCap w (xs.length + news.length) cap E - (xs.length + news.length))) E (0, 0))).rowMk (xs := xs ++ news) (cap := grownCap w (xs.length + news.length) cap E) (by simpa using hge) hgm
        (by simp only [Array.size_append, List.size_toArray, size_zeroCells, hzs]; omega) (by simp only [Array.toList_append]; exact List.take_left)
      rw [List.length_append] at hs
      exact hs

theorem wpList_append_st (w : World) {ops : Array Oper} {rest : List Oper} {o : Oper} {a : Act} {Q : Exit → Act → World → Prop} (hgd : o.guard = none) (s x : Operand) (t : TypeId)
    (ho : o.op = .call { callee := .builtin .append, args := #[s, x], argTypes := #[t, t] })
    (E : TypeId) (i : TypeInfo) (z : Value) (bytes : Nat) (ht : P.underlying t = some (.slice E)) (hi : P.info? E = some i) (hz : i.zero = some z)
    (hsize : i.size = 1) (hby : i.bytes = bytes) (hzs : z.cells.size = 1) (v : Value) (xs : List Value) {R : SP} {F : Fr} (hs : a.eval s = v) (h : St (RowP E v xs * R) F w)
    (ad : Addr) (c n : Nat) (news : List Value) (hx : a.eval x = .slice (some ad) n c) (hn : n = news.length) (hnews : ∀ j u, news[j]? = some u → w.cell? (ad.add j) = some u) (h1 : ∀ u ∈ news, u.oneCell' = true)
    (h63 : xs.length + news.length ≤ maxLen) (hbytes : (xs.length + news.length) * bytes ≤ 140737488355328)
    (hk : ∀ v' w', St (RowP E v' (xs ++ news) * R) F w' → wpList P ops Q rest (a.put o.dst v') w') : wpList P ops Q (o :: rest) a w := by
  subst hn
  refine wpList_plain hgd fun K hK => ?_
  obtain ⟨v', w', hr, h2⟩ := run_append_st (P := P) w t o.type E i z bytes ht hi hz hsize hby hzs v xs h ad c news hnews h1 h63 hbytes
  unfold Oper.wp execOp
  simp only [ho, resolve, invoke, builtin, Sem.run_bind, Sem.run_pure, Result.andThen_ok, List.map_toArray, List.map_cons, List.map_nil, hs, hx, hr]
  exact hK _ _ (hk v' w' h2)
end
end Go.Proofs.Ytknmlfolbapmpaa
