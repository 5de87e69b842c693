import Derived.Test.YtknmlfolbapmpaaIn
import Derived.Test.YtknmlfolbapmpaaRows
import Derived.WalkKit
import Derived.ProofKit
import Derived.OpenShut
import Derived.ChangeOld
import Derived.Below
import Derived.Lib.SmallJoins
import Derived.Deep.Slices
namespace Go.Proofs.Ytknmlfolbapmpaa
open Go Go.ChangeShapes Go.WideShapes Go.ChangeAt Go.RowKit

theorem own : ownKnob Try.prog.godebug = none := by kernel_rfl
theorem laidOut : laidOutB Try.prog = true := by kernel_rfl

/-- All that a world holds. -/
def frOf (W : World) : Fr := ⟨fun b => W.heap[b]?, W.os, W.tape, W.output⟩
theorem frOf_st (W : World) : St 1 (frOf W) W := St.one (fun _ _ h => h) rfl rfl rfl
theorem St.below {W W' : World} {P : SP} (h : St P (frOf W) W') : Below W.heap.size W W' := by
  obtain ⟨x, _, _, fon, _, e1, e2, e3⟩ := h
  have hb : ∀ k, k < W.heap.size → W'.heap[k]? = W.heap[k]? := fun k hk => by
    have hg : W.heap[k]? = some W.heap[k] := by simp [hk]
    rw [hg]
    exact fon k _ hg
  refine ⟨e1, e2, e3, ?_, hb⟩
  cases hz : W.heap.size with
  | zero => omega
  | succ n =>
    have hg : W.heap[n]? = some (W.heap[n]'(by omega)) := by simp [hz]
    have := (Array.getElem?_eq_some_iff.1 (fon n _ hg)).1
    omega
theorem rd_of {W : World} {a : Addr} {v : Value} (h : W.cell? a = some v) : (frOf W).rd a v := by
  intro w hw
  have hb : w.heap[a.block]? = W.heap[a.block]? := by
    cases hg : W.heap[a.block]? with
    | none => unfold World.cell? at h; rw [hg] at h; cases h
    | some o => exact hw _ o hg
  unfold World.cell? at h ⊢
  rw [hb]
  exact h

section
variable {H : Type} {enc : TypeId × Value → H} {W : World}
/-- Arrays of n numbers. -/
def InArrs (F : Fr) (v : Value) (k : IntKind) (n : Nat) (xs : List (List Int)) : Prop := ∃ o c, v = .slice o xs.length c ∧ ∀ (j : Nat) (r : List Int), xs[j]? = some r → r.length = n ∧ ∃ a, o = some a ∧
  ∀ (i : Nat) (x : Int), r[i]? = some x → (Lit.int k x).wf = true ∧ F.rd ((a.add (j * n)).add i) (.int k x)
theorem open_u8s {t e : TypeId} {sp : Nat → Bool} {hd : Bool} {fuel : Nat} {v : Value} {x : DataW H × List MemPlace} (ht : Try.prog.underlying t = some (.slice e)) (he : Try.prog.underlying e = some (.int .u8)) (hc : Try.prog.cellsOf e = 1)
    (h : DataW.trod enc Try.prog W 0 sp hd fuel t [v] = some x) : ∃ fs, InBytes (frOf W) v fs := by
  rcases open_ints ht he hc h with ⟨hcs, _⟩ | ⟨a, l, c, zs, hcs, _, hl, hm, hz, _, hcell, hwz⟩
  · cases hcs
    exact ⟨[], none, 0, rfl, fun j f hj => by simp at hj⟩
  · cases hcs
    have hlen : l ≤ zs.length := by rw [hz]; split <;> omega
    refine ⟨(zs.take l).map Int.toNat, some a, c, by simp; omega, fun j f hj => ?_⟩
    rw [List.getElem?_map] at hj
    by_cases hjl : j < l
    · rw [List.getElem?_take_of_lt hjl] at hj
      have hjz : j < zs.length := by omega
      have hg : zs[j]? = some zs[j] := by simp [hjz]
      rw [hg] at hj
      simp only [Option.map_some, Option.some.injEq] at hj
      have hw := bounds_u8 (hwz zs[j] (List.getElem_mem hjz))
      have hcj := hcell j hjz
      have e1 : zs.getD j 0 = (f : Int) := by
        rw [List.getD, hg]
        show zs[j] = (f : Int)
        omega
      rw [e1] at hcj
      exact ⟨by omega, a, rfl, rd_of hcj⟩
    · rw [List.getElem?_eq_none (by simp; omega)] at hj
      cases hj
theorem open_arrs {t e q : TypeId} {k : IntKind} {n : Nat} {sp : Nat → Bool} {hd : Bool} {fuel : Nat} {v : Value} {x : DataW H × List MemPlace} (ht : Try.prog.underlying t = some (.slice e)) (he : Try.prog.underlying e = some (.array n q)) (hq : Try.prog.underlying q = some (.int k)) (hqc : Try.prog.cellsOf q = 1) (hc : Try.prog.cellsOf e = n)
    (h : DataW.trod enc Try.prog W 0 sp hd fuel t [v] = some x) : ∃ xs, InArrs (frOf W) v k n xs := by
  rcases Go.Deep.open_slice ht h with ⟨hcs, _⟩ | ⟨a, l, c, m, f, D, Pl, hcs, _, hl, hm, hmm, _, hel⟩
  · cases hcs
    exact ⟨[], none, 0, rfl, fun j f hj => by simp at hj⟩
  · cases hcs
    have hlm : l ≤ m := by rw [hmm]; split <;> omega
    rw [hc] at hel
    obtain ⟨R, hR⟩ := Go.Deep.choose_lt (α := List Int) (n := l) (p := fun j r => r.length = n ∧ ∀ (i : Nat) (x : Int), r[i]? = some x → (Lit.int k x).wf = true ∧ W.cell? ((a.add (j * n)).add i) = some (.int k x)) (fun j hj => by
      obtain ⟨cs, h1, h2⟩ := hel j (by omega)
      obtain ⟨_, hlen, hcells⟩ := World.cells?_some h1
      obtain ⟨xs, mm, _, _, _, hxl, hx⟩ := DataW.trod_array he h2
      obtain ⟨f, hf⟩ := Go.Deep.choose_lt (α := Int) (n := n) (p := fun i z => cs[i]? = some (.int k z) ∧ (Lit.int k z).wf = true) (fun i hi => by
        have hxi := hx i hi
        rw [hqc, Nat.mul_one] at hxi
        rw [show xs[i]? = some xs[i] by simp [hxl, hi]] at hxi
        obtain ⟨z, hz1, _, hz3⟩ := DataW.trod_int hq hxi
        refine ⟨z, ?_, hz3⟩
        have h0 : ((cs.drop i).take 1)[0]? = some (.int k z) := by rw [hz1]; rfl
        simpa using h0)
      refine ⟨(List.range n).map f, by simp, fun i x hi => ?_⟩
      by_cases hin : i < n
      · simp only [List.getElem?_map, List.getElem?_range hin, Option.map_some, Option.some.injEq] at hi
        obtain ⟨g1, g2⟩ := hf i hin
        rw [hi] at g1 g2
        refine ⟨g2, ?_⟩
        rw [hcells i hin]
        exact g1
      · rw [List.getElem?_eq_none (by simp; omega)] at hi
        cases hi)
    refine ⟨(List.range l).map R, some a, c, by simp, fun j r hj => ?_⟩
    by_cases hjl : j < l
    · simp only [List.getElem?_map, List.getElem?_range hjl, Option.map_some, Option.some.injEq] at hj
      obtain ⟨g1, g2⟩ := hR j hjl
      rw [hj] at g1 g2
      exact ⟨g1, a, rfl, fun i x hi => ⟨(g2 i x hi).1, rd_of (g2 i x hi).2⟩⟩
    · rw [List.getElem?_eq_none (by simp; omega)] at hj
      cases hj
end
/-- A slice of arrays: as a list of what each is turned to. -/
theorem InArrs.each {F : Fr} {v : Value} {k : IntKind} {n : Nat} {xs : List (List Int)} {α : Type} (g : List Int → α) (h : InArrs F v k n xs) : ∃ o c, v = .slice o (xs.map g).length c ∧ ∀ (j : Nat) (e : α), (xs.map g)[j]? = some e →
    ∃ r a, e = g r ∧ r.length = n ∧ o = some a ∧ ∀ (i : Nat) (x : Int), r[i]? = some x → (Lit.int k x).wf = true ∧ F.rd ((a.add (j * n)).add i) (.int k x) := by
  obtain ⟨o, c, hv, H⟩ := h
  refine ⟨o, c, by rw [hv, List.length_map], fun j e he => ?_⟩
  rw [List.getElem?_map] at he
  obtain ⟨r, hr, rfl⟩ := Option.map_eq_some_iff.1 he
  obtain ⟨h1, a, h2, h3⟩ := H j r hr
  exact ⟨r, a, rfl, h1, h2, h3⟩
theorem add_zero' (a : Addr) : a.add 0 = a := rfl
theorem InArrs.pairs {F : Fr} {v : Value} {xs : List (List Int)} (h : InArrs F v .u8 2 xs) : ∃ es, InPairs F v es := by
  obtain ⟨o, c, hv, H⟩ := h.each fun r => ((r.getD 0 0).toNat, (r.getD 1 0).toNat)
  refine ⟨_, o, c, hv, fun j e he => ?_⟩
  obtain ⟨r, a, rfl, hlen, ho, hr⟩ := H j e he
  match r, hlen with
  | [x, y], _ =>
    obtain ⟨w0, r0⟩ := hr 0 x rfl
    obtain ⟨w1, r1⟩ := hr 1 y rfl
    have b0 := bounds_u8 w0
    have b1 := bounds_u8 w1
    have e0 : ((x.toNat : Nat) : Int) = x := by omega
    have e1 : ((y.toNat : Nat) : Int) = y := by omega
    refine ⟨⟨by show x.toNat < 256; omega, by show y.toNat < 256; omega⟩, a, ho, ?_, ?_⟩
    · show F.rd (a.add (j * 2)) (.int .u8 (x.toNat : Int)); rw [e0]; exact r0
    · show F.rd ((a.add (j * 2)).add 1) (.int .u8 (y.toNat : Int)); rw [e1]; exact r1
theorem InArrs.triples {F : Fr} {v : Value} {xs : List (List Int)} (h : InArrs F v .u16 3 xs) : ∃ es, InTriples F v es := by
  obtain ⟨o, c, hv, H⟩ := h.each fun r => ((r.getD 0 0).toNat, (r.getD 1 0).toNat, (r.getD 2 0).toNat)
  refine ⟨_, o, c, hv, fun j e he => ?_⟩
  obtain ⟨r, a, rfl, hlen, ho, hr⟩ := H j e he
  match r, hlen with
  | [x, y, z], _ =>
    obtain ⟨w0, r0⟩ := hr 0 x rfl
    obtain ⟨w1, r1⟩ := hr 1 y rfl
    obtain ⟨w2, r2⟩ := hr 2 z rfl
    have b0 := bounds_u16 w0
    have b1 := bounds_u16 w1
    have b2 := bounds_u16 w2
    have e0 : ((x.toNat : Nat) : Int) = x := by omega
    have e1 : ((y.toNat : Nat) : Int) = y := by omega
    have e2 : ((z.toNat : Nat) : Int) = z := by omega
    refine ⟨⟨by show x.toNat < 65536; omega, by show y.toNat < 65536; omega, by show z.toNat < 65536; omega⟩, a, ho, ?_, ?_, ?_⟩
    · show F.rd (a.add (j * 3)) (.int .u16 (x.toNat : Int)); rw [e0]; exact r0
    · show F.rd ((a.add (j * 3)).add 1) (.int .u16 (y.toNat : Int)); rw [e1]; exact r1
    · show F.rd ((a.add (j * 3)).add 2) (.int .u16 (z.toNat : Int)); rw [e2]; exact r2
theorem InArrs.quads {F : Fr} {v : Value} {xs : List (List Int)} (h : InArrs F v .u8 4 xs) : ∃ es, InQuads F v es := by
  obtain ⟨o, c, hv, H⟩ := h.each fun r => ((r.getD 0 0).toNat, (r.getD 1 0).toNat, (r.getD 2 0).toNat, (r.getD 3 0).toNat)
  refine ⟨_, o, c, hv, fun j e he => ?_⟩
  obtain ⟨r, a, rfl, hlen, ho, hr⟩ := H j e he
  match r, hlen with
  | [x, y, z, u], _ =>
    obtain ⟨w0, r0⟩ := hr 0 x rfl
    obtain ⟨w1, r1⟩ := hr 1 y rfl
    obtain ⟨w2, r2⟩ := hr 2 z rfl
    obtain ⟨w3, r3⟩ := hr 3 u rfl
    have b0 := bounds_u8 w0
    have b1 := bounds_u8 w1
    have b2 := bounds_u8 w2
    have b3 := bounds_u8 w3
    have e0 : ((x.toNat : Nat) : Int) = x := by omega
    have e1 : ((y.toNat : Nat) : Int) = y := by omega
    have e2 : ((z.toNat : Nat) : Int) = z := by omega
    have e3 : ((u.toNat : Nat) : Int) = u := by omega
    refine ⟨⟨by show x.toNat < 256; omega, by show y.toNat < 256; omega, by show z.toNat < 256; omega, by show u.toNat < 256; omega⟩, a, ho, ?_, ?_, ?_, ?_⟩
    · show F.rd (a.add (j * 4)) (.int .u8 (x.toNat : Int)); rw [e0]; exact r0
    · show F.rd ((a.add (j * 4)).add 1) (.int .u8 (y.toNat : Int)); rw [e1]; exact r1
    · show F.rd ((a.add (j * 4)).add 2) (.int .u8 (z.toNat : Int)); rw [e2]; exact r2
    · show F.rd ((a.add (j * 4)).add 3) (.int .u8 (u.toNat : Int)); rw [e3]; exact r3
end Go.Proofs.Ytknmlfolbapmpaa
