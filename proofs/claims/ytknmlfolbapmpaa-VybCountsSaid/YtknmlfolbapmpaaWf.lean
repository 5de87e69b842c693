import Derived.Test.YtknmlfolbapmpaaCell
namespace Go.Proofs.Ytknmlfolbapmpaa
open Go Go.RowKit

theorem rf_page {p p' k k' : Nat} {c c' : Int} (h0 : 0 ≤ c) (h3 : c < 3) (hk : k < cN c) (h0' : 0 ≤ c') (h3' : c' < 3) (hk' : k' < cN c') (h : rf p c k = rf p' c' k') : p = p' := by
  have h1 := rf_lt (p := p) h0 h3 hk
  have h2 := rf_lt (p := p') h0' h3' hk'
  rw [h] at h1
  omega
theorem rf_cell {p k k' : Nat} {c : Int} (h0 : 0 ≤ c) (h3 : c < 3) (h : rf p c k = rf p c k') : k = k' := by
  unfold rf at h
  rcases wN_cases h0 h3 with ⟨_, e, _⟩ | ⟨_, e, _⟩ | ⟨_, e, _⟩ <;> rw [e] at h <;> omega
/-- Two cells' words are apart. -/
theorem rf_apart {p p' k k' : Nat} {c c' : Int} (h0 : 0 ≤ c) (h3 : c < 3) (hk : k < cN c) (h0' : 0 ≤ c') (h3' : c' < 3) (hk' : k' < cN c') (hcc : p = p' → c = c') (hne : rf p c k ≠ rf p' c' k') {j : Nat}
    (hj : rf p' c' k' - 1 ≤ j) (hj2 : j < rf p' c' k' - 1 + wN c') : ¬ (rf p c k - 1 ≤ j ∧ j < rf p c k - 1 + wN c) := by
  have hb : k * wN c + wN c ≤ 32 := by rcases wN_cases h0 h3 with ⟨_, e1, e2, _⟩ | ⟨_, e1, e2, _⟩ | ⟨_, e1, e2, _⟩ <;> rw [e2] at hk <;> rw [e1] <;> omega
  have hb' : k' * wN c' + wN c' ≤ 32 := by rcases wN_cases h0' h3' with ⟨_, e1, e2, _⟩ | ⟨_, e1, e2, _⟩ | ⟨_, e1, e2, _⟩ <;> rw [e2] at hk' <;> rw [e1] <;> omega
  by_cases hp : p = p'
  · subst hp
    obtain rfl := hcc rfl
    have hkk : k ≠ k' := fun e => hne (by rw [e])
    have hm : wN c = 2 ∨ wN c = 4 ∨ wN c = 8 := by rcases wN_cases h0 h3 with ⟨_, e1, _⟩ | ⟨_, e1, _⟩ | ⟨_, e1, _⟩ <;> omega
    unfold rf at hj hj2 ⊢
    rcases hm with e1 | e1 | e1 <;> rw [e1] at hj hj2 ⊢ <;> omega
  · unfold rf at *
    omega

/-- What is taken wasn't. -/
theorem Ar.takes_new {A : Ar} (hA : A.WF) {c : Int} (h0 : 0 ≤ c) (h3 : c < 3) {p k : Nat} (h : A.takes c p k) : p < A.np ∧ k < cN c ∧ A.tk (rf p c k) = false ∧ (A.cls p = c ∨ A.cls p < 0) := by
  rcases h with ⟨a, b, _, _, d, e, _⟩ | ⟨_, a, b, _, rfl⟩
  · exact ⟨a, d, e, .inl b⟩
  · have hk : 0 < cN c := by rcases wN_cases h0 h3 with ⟨_, _, e, _⟩ | ⟨_, _, e, _⟩ | ⟨_, _, e, _⟩ <;> omega
    refine ⟨a, hk, ?_, .inr b⟩
    cases ht : A.tk (rf p c 0)
    · rfl
    · obtain ⟨p', k', hp', hc', hk', hr⟩ := hA.tk _ ht
      have h3' : A.cls p' < 3 := by rcases hA.cls p' hp' with h | h <;> omega
      have := rf_page h0 h3 hk hc' h3' hk' hr
      subst this
      omega
theorem Ar.newed_tk (A : Ar) (c : Int) (p k f : Nat) : (A.newed c p k f).tk = upd A.tk (rf p c k) true := rfl
theorem Ar.newed_np (A : Ar) (c : Int) (p k f : Nat) : (A.newed c p k f).np = A.np := rfl
theorem Ar.newed_cls (A : Ar) (c : Int) (p k f : Nat) : (A.newed c p k f).cls = upd A.cls p c := rfl
theorem Ar.newed_free (A : Ar) (c : Int) (p k f : Nat) : (A.newed c p k f).free = if A.cls p = c then A.free else A.free - 1 := rfl
/-- The words of what was there stay. -/
theorem Ar.newed_wd {A : Ar} (hA : A.WF) {c : Int} (h0 : 0 ≤ c) (h3 : c < 3) {p k f : Nat} (h : A.takes c p k) {r n : Nat} (hr : A.Ob r n) {j : Nat} (hj : r - 1 ≤ j) (hj2 : j < r + 1 + n) : (A.newed c p k f).wd j = A.wd j := by
  obtain ⟨hp, hk, hnew, hcls⟩ := Ar.takes_new hA h0 h3 h
  obtain ⟨htk, _, p', k', hp', h0', h3', hk', rfl, hn⟩ := hr
  have hne : rf p c k ≠ rf p' (A.cls p') k' := fun e => by rw [e, htk] at hnew; cases hnew
  have hr1 := (rf_lt (p := p') h0' h3' hk').1
  have hap := rf_apart h0 h3 hk h0' h3' hk' (fun e => by subst e; omega) hne hj (by omega)
  have hw : 2 ≤ wN c := by rcases wN_cases h0 h3 with ⟨_, e, _⟩ | ⟨_, e, _⟩ | ⟨_, e, _⟩ <;> omega
  show upd (A.took c p k).wd (rf p c k - 1) f j = _
  rw [upd_other _ _ (by rintro rfl; exact hap ⟨Nat.le_refl _, by omega⟩)]
  show (if rf p c k - 1 ≤ j ∧ j < rf p c k - 1 + wN c then 0 else A.wd j) = _
  rw [if_neg hap]
theorem Ar.newed_old {A : Ar} (hA : A.WF) {c : Int} (h0 : 0 ≤ c) (h3 : c < 3) {p k f : Nat} (h : A.takes c p k) {r n : Nat} (hr : A.Ob r n) : (A.newed c p k f).Ob r n := by
  have hwd := Ar.newed_wd (f := f) hA h0 h3 h hr (j := r - 1) (Nat.le_refl _) (by omega)
  obtain ⟨hp, hk, hnew, hcls⟩ := Ar.takes_new hA h0 h3 h
  obtain ⟨htk, hn0, p', k', hp', h0', h3', hk', rfl, hn⟩ := hr
  have hne : rf p' (A.cls p') k' ≠ rf p c k := fun e => by rw [← e, htk] at hnew; cases hnew
  have hc : upd A.cls p c p' = A.cls p' := by
    by_cases e : p' = p
    · subst e; rw [upd_same]; omega
    · exact upd_other _ _ e
  refine ⟨?_, by rw [hwd]; exact hn0, p', k', hp', ?_⟩
  · rw [Ar.newed_tk, upd_other _ _ hne]; exact htk
  · rw [Ar.newed_cls, hc]; exact ⟨h0', h3', hk', rfl, hn⟩
theorem Ar.newed_new {A : Ar} (hA : A.WF) {c : Int} (h0 : 0 ≤ c) (h3 : c < 3) {p k f : Nat} (h : A.takes c p k) (hf : 2 + f ≤ wN c) : (A.newed c p k f).Ob (rf p c k) f ∧ ∀ j, j < f → (A.newed c p k f).wd (rf p c k + 1 + j) = 0 := by
  obtain ⟨hp, hk, hnew, hcls⟩ := Ar.takes_new hA h0 h3 h
  have hr1 := (rf_lt (p := p) h0 h3 hk).1
  refine ⟨⟨?_, ?_, p, k, hp, ?_⟩, fun j hj => ?_⟩
  · rw [Ar.newed_tk, upd_same]
  · show upd _ _ _ _ = _; rw [upd_same]
  · rw [Ar.newed_cls, upd_same]; exact ⟨h0, h3, hk, rfl, hf⟩
  · show upd (A.took c p k).wd (rf p c k - 1) f (rf p c k + 1 + j) = _
    rw [upd_other _ _ (by omega)]
    show (if rf p c k - 1 ≤ rf p c k + 1 + j ∧ rf p c k + 1 + j < rf p c k - 1 + wN c then (0 : Int) else _) = 0
    rw [if_pos (by omega)]
/-- It stays well formed. -/
theorem Ar.newed_wf {A : Ar} (hA : A.WF) {c : Int} (h0 : 0 ≤ c) (h3 : c < 3) {p k f : Nat} (h : A.takes c p k) : (A.newed c p k f).WF := by
  obtain ⟨hp, hk, hnew, hcls⟩ := Ar.takes_new hA h0 h3 h
  have hcls0 : A.cls p < 0 → A.cls p = -1 := fun h => by rcases hA.cls p hp with e | e <;> omega
  have hnone : A.cls p < 0 → ∀ k', k' < cN c → A.tk (rf p c k') = false := fun hneg k' hk' => by
    cases ht : A.tk (rf p c k')
    · rfl
    · obtain ⟨p2, k2, hp2, hc2, hk2, hr⟩ := hA.tk _ ht
      have h32 : A.cls p2 < 3 := by rcases hA.cls p2 hp2 with h | h <;> omega
      have := rf_page h0 h3 hk' hc2 h32 hk2 hr
      subst this
      omega
  have hcnt : cntF (fun k' => upd A.tk (rf p c k) true (rf p c k')) (cN c) = cntF (fun k' => A.tk (rf p c k')) (cN c) + 1 := by
    have e : (fun k' => upd A.tk (rf p c k) true (rf p c k')) = upd (fun k' => A.tk (rf p c k')) k true := by
      funext k'
      by_cases e : k' = k
      · subst e; rw [upd_same, upd_same]
      · rw [upd_other _ _ e, upd_other _ _ (fun h => e (rf_cell h0 h3 h))]
    rw [e]
    have := cntF_upd (fun k' => A.tk (rf p c k')) true hk
    simp only [hnew, Bool.false_eq_true, if_false, if_true] at this
    exact this
  constructor
  · exact hA.np
  · intro q hq
    rw [Ar.newed_cls]
    by_cases e : q = p
    · subst e; rw [upd_same]; exact .inr ⟨h0, h3⟩
    · rw [upd_other _ _ e]; exact hA.cls q hq
  · intro q hq
    rw [Ar.newed_cls, Ar.newed_tk]
    show upd A.cnt p ((if A.cls p = c then A.cnt p else 0) + 1) q = _
    by_cases e : q = p
    · subst e
      rw [upd_same, upd_same, hcnt]
      rcases hcls with hcls | hcls
      · rw [if_pos hcls, hA.cnt q hq, hcls]
      · rw [if_neg (by omega), cntF_zero (fun k' hk' => hnone hcls k' hk')]
    · rw [upd_other _ _ e, upd_other _ _ e, hA.cnt q hq]
      apply cntF_congr
      intro k' hk'
      rcases hA.cls q hq with hq1 | hq1
      · rw [hq1] at hk'; exact absurd hk' (Nat.not_lt_zero k')
      · rw [upd_other]
        intro h
        exact e (rf_page hq1.1 hq1.2 hk' h0 h3 hk h)
  · intro q hq h0q
    show 0 < upd A.cnt p _ q
    by_cases e : q = p
    · subst e; rw [upd_same]; omega
    · rw [upd_other _ _ e]
      rw [Ar.newed_cls, upd_other _ _ e] at h0q
      exact hA.pos q hq h0q
  · intro r hr
    rw [Ar.newed_tk] at hr
    by_cases e : r = rf p c k
    · refine ⟨p, k, hp, ?_⟩
      rw [Ar.newed_cls, upd_same]
      exact ⟨h0, hk, e⟩
    · rw [upd_other _ _ e] at hr
      obtain ⟨p', k', hp', hc', hk', hr'⟩ := hA.tk r hr
      refine ⟨p', k', hp', ?_⟩
      have hc : upd A.cls p c p' = A.cls p' := by
        by_cases e : p' = p
        · subst e; rw [upd_same]; omega
        · exact upd_other _ _ e
      rw [Ar.newed_cls, hc]
      exact ⟨hc', hk', hr'⟩
  · rw [Ar.newed_free, Ar.newed_cls, Ar.newed_np]
    have e : (fun q => decide (upd A.cls p c q < 0)) = upd (fun q => decide (A.cls q < 0)) p false := by
      funext q
      by_cases e : q = p
      · subst e; rw [upd_same, upd_same]; simp; omega
      · rw [upd_other _ _ e, upd_other _ _ e]
    rw [e]
    have := cntF_upd (fun q => decide (A.cls q < 0)) false hp
    rw [hA.free]
    rcases hcls with hcls | hcls
    · have hb : decide (A.cls p < 0) = false := by simp; omega
      simp only [hb, Bool.false_eq_true, if_false] at this
      rw [if_pos hcls]; omega
    · have hb : decide (A.cls p < 0) = true := by simp; omega
      simp only [hb, Bool.false_eq_true, if_false, if_true] at this
      rw [if_neg (by omega)]; omega
/-- A store into a field. -/
theorem Ar.setWd_wf {A : Ar} (hA : A.WF) (j : Nat) (x : Int) : ({ A with wd := upd A.wd j x } : Ar).WF := ⟨hA.np, hA.cls, hA.cnt, hA.pos, hA.tk, hA.free⟩
theorem Ar.setWd_ob {A : Ar} {r n r' n' j : Nat} (h : A.Ob r n) (h' : A.Ob r' n') (hj : j < n) (x : Int) : ({ A with wd := upd A.wd (r + 1 + j) x } : Ar).Ob r' n' := by
  obtain ⟨htk, hn, p, k, hp, h0, h3, hk, hr, hw⟩ := h
  obtain ⟨htk', hn', p', k', hp', h0', h3', hk', hr', hw'⟩ := h'
  refine ⟨htk', ?_, p', k', hp', h0', h3', hk', hr', hw'⟩
  show upd A.wd _ _ _ = _
  rw [upd_other]
  · exact hn'
  · have hb := rf_lt (p := p) h0 h3 hk
    have hb' := rf_lt (p := p') h0' h3' hk'
    by_cases e : r' = r
    · omega
    · have hap := rf_apart (p := p) (p' := p') h0 h3 hk h0' h3' hk' (fun e => by rw [e]) (by rw [← hr, ← hr']; exact fun e' => e e'.symm) (j := r' - 1) (by omega) (by omega)
      omega
theorem Ar.begun_wf (n : Nat) (hn : n ≤ 64) : (⟨n, fun _ => -1, fun _ => 0, fun _ => 0, fun _ => false, n⟩ : Ar).WF :=
  ⟨hn, fun _ _ => .inl rfl, fun _ _ => (by show 0 = cntF _ 0; rfl), fun _ _ h => by change (0 : Int) ≤ -1 at h; omega, fun _ h => (by cases h), (cntF_full (fun _ _ => by simp)).symm⟩
end Go.Proofs.Ytknmlfolbapmpaa
