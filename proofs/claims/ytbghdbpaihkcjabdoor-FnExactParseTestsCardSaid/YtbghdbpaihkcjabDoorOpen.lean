/- What an argument leads to, read as rows: a slice of whole numbers, of structs of one-cell fields, of slices. No conditions but that it can be read. -/
import Derived.Test.YtbghdbpaihkcjabDoorWWords
import Derived.Deep.Slices
import Derived.Deep.Fields
import Derived.ChangeSame
namespace Go.Proofs.YtbghdbpaihkcjabDoor.Op
open Go.ChangeShapes Go.WideShapes Go.Deep Go.RowKit Go.Proofs.YtbghdbpaihkcjabDoorW.PrintWords
section
variable {H : Type} {enc : TypeId × Value → H} {P : Program} {w : World} {base : Nat} {spare : Nat → Bool} {held : Bool}
/-- What is asked of an element: its cells read as an x of this kind that is good. -/
def Elem (enc : TypeId × Value → H) (P : Program) (w : World) (base : Nat) (spare : Nat → Bool) (held : Bool) {α : Type} (d : Kd α) (good : α → Prop) (e : TypeId) : Prop :=
  ∀ fuel cs y, DataW.trod enc P w base spare held fuel e cs = some y → cs.length = d.sz → ∃ x, d.K w x cs ∧ good x
theorem row_of {α : Type} {d : Kd α} {good : α → Prop} {t e : TypeId} (ht : P.underlying t = some (.slice e)) (hC : P.cellsOf e = d.sz) (hel : Elem enc P w base spare held d good e)
    {fuel : Nat} {cs : List Value} {x : DataW H × List MemPlace} (h : DataW.trod enc P w base spare held fuel t cs = some x) :
    ∃ (A : Option Addr) (c : Nat) (xs : List α), cs = [.slice A xs.length c] ∧ xs.length ≤ c ∧ c ≤ maxLen ∧ d.C w A xs.length xs ∧ ∀ x ∈ xs, good x := by
  rcases open_slice ht h with ⟨rfl, _⟩ | ⟨a, len, cap, m, n, D, Pl, rfl, _, hl, hm, hmm, _, hi⟩
  · exact ⟨none, 0, [], rfl, Nat.le_refl _, Nat.zero_le _, ⟨rfl, by simp, fun h => absurd h (by simp)⟩, by simp⟩
  have hle : len ≤ m := by
    rw [hmm]
    split
    · exact hl
    · exact Nat.le_refl _
  have key : ∀ k, k ≤ len → ∃ xs : List α, xs.length = k ∧ ∀ j p, xs[j]? = some p → good p ∧ ∃ c, c.length = d.sz ∧ d.K w p c ∧ ∀ i u, c[i]? = some u → w.cell? (a.add (j * d.sz + i)) = some u := by
    intro k
    induction k with
    | zero => exact fun _ => ⟨[], rfl, fun j p hj => by simp at hj⟩
    | succ k ih =>
      intro hk
      obtain ⟨xs, hxl, hx⟩ := ih (by omega)
      obtain ⟨cs', hc, ht'⟩ := hi k (by omega)
      obtain ⟨_, hcl, hat⟩ := World.cells?_some hc
      rw [hC] at hcl hat
      obtain ⟨p, hK, hg⟩ := hel _ _ _ ht' hcl
      refine ⟨xs ++ [p], by simp [hxl], fun j q hj => ?_⟩
      by_cases e : j < xs.length
      · rw [List.getElem?_append_left e] at hj
        exact hx j q hj
      · have hjl := (List.getElem?_eq_some_iff.1 hj).1
        simp at hjl
        have hjk : j = k := by omega
        subst hjk
        rw [List.getElem?_append_right (by omega), hxl, Nat.sub_self] at hj
        simp at hj
        subst hj
        refine ⟨hg, cs', hcl, hK, fun i u hu => ?_⟩
        have hil : i < d.sz := by rw [← hcl]; exact (List.getElem?_eq_some_iff.1 hu).1
        have := hat i hil
        rw [← Go.Deep.add_add, this, hu]
  obtain ⟨xs, hxl, hx⟩ := key len (Nat.le_refl _)
  refine ⟨some a, cap, xs, by rw [hxl], by omega, hm, ⟨rfl, by unfold maxLen at hm; omega, fun _ => ⟨a, rfl, fun j p hj => ?_⟩⟩, fun p hp => ?_⟩
  · obtain ⟨_, c, h1, h2, h3⟩ := hx j p hj
    exact ⟨c, h1, h2, h3⟩
  · obtain ⟨j, hj⟩ := List.mem_iff_getElem?.1 hp
    exact (hx j p hj).1
/-- Whole numbers. -/
theorem elem_int {k : IntKind} {e : TypeId} (he : P.underlying e = some (.int k)) : Elem enc P w base spare held (Kd.int k) (fun n => (Lit.int k n).wf = true) e := by
  intro fuel cs y h _
  obtain ⟨n, rfl, _, hw⟩ := DataW.trod_int he h
  exact ⟨n, rfl, hw⟩
/-- Bools. -/
theorem elem_bool {e : TypeId} (he : P.underlying e = some .bool) : Elem enc P w base spare held Kd.bool (fun _ => True) e := by
  intro fuel cs y h _
  obtain ⟨b, rfl, _⟩ := DataW.trod_bool he h
  exact ⟨b, rfl, trivial⟩
/-- Slices of such. -/
theorem elem_slice {α : Type} {d : Kd α} {good : α → Prop} {t e : TypeId} (ht : P.underlying t = some (.slice e)) (hC : P.cellsOf e = d.sz) (hel : Elem enc P w base spare held d good e) :
    Elem enc P w base spare held (Kd.slice e d) (fun l => l.length ≤ maxLen ∧ ∀ x ∈ l, good x) t := by
  intro fuel cs y h _
  obtain ⟨A, c, xs, rfl, hl, hm, hc, hg⟩ := row_of ht hC hel h
  exact ⟨xs, ⟨A, c, rfl, hl, hc⟩, by omega, hg⟩
/-- A struct's fields, each one cell. -/
theorem cells_of {e : TypeId} {fs : Array Field} {fuel : Nat} {cs : List Value} {y : DataW H × List MemPlace} (he : P.underlying e = some (.struct fs)) (hone : oneCellFields P fs = true) (hcl : cs.length = fs.size)
    (h : DataW.trod enc P w base spare held fuel e cs = some y) : ∃ n, ∀ (j : Nat) (f : Field), fs[j]? = some f → ∃ (v : Value) (z : DataW H × List MemPlace), cs[j]? = some v ∧ DataW.trod enc P w base spare held n f.type [v] = some z := by
  obtain ⟨ys, n, _, _, hlen, hyl, hf⟩ := DataW.trod_struct he h
  refine ⟨n, fun j f hj => ?_⟩
  obtain ⟨ho, hk⟩ := hone_of hone j f hj
  have hjl : j < fs.size := (Array.getElem?_eq_some_iff.1 hj).1
  have h1 := hf j f hj
  rw [ho, hk] at h1
  have h2 : (cs.drop j).take 1 = [cs[j]'(by omega)] := by
    rw [List.drop_eq_getElem_cons (by omega)]
    rfl
  rw [h2] at h1
  have hys : ys[j]? = some (ys[j]'(by omega)) := List.getElem?_eq_getElem (by omega)
  exact ⟨_, _, List.getElem?_eq_getElem (by omega), h1.trans hys⟩
/-- Structs of two whole numbers. -/
theorem elem_two {k0 k1 : IntKind} {e : TypeId} {f0 f1 : Field} (he : P.underlying e = some (.struct #[f0, f1])) (hone : oneCellFields P #[f0, f1] = true) (h0 : P.underlying f0.type = some (.int k0)) (h1 : P.underlying f1.type = some (.int k1)) :
    Elem enc P w base spare held (Kd.pair (Kd.int k0) (Kd.int k1)) (fun x => (Lit.int k0 x.1).wf = true ∧ (Lit.int k1 x.2).wf = true) e := by
  intro fuel cs y h hl
  obtain ⟨n, hf⟩ := cells_of he hone hl h
  obtain ⟨v0, _, hv0, t0⟩ := hf 0 f0 rfl
  obtain ⟨v1, _, hv1, t1⟩ := hf 1 f1 rfl
  obtain ⟨a, e0, _, w0⟩ := DataW.trod_int h0 t0
  obtain ⟨b, e1, _, w1⟩ := DataW.trod_int h1 t1
  injection e0 with e0
  injection e1 with e1
  subst e0
  subst e1
  refine ⟨(a, b), ⟨[.int k0 a], [.int k1 b], ?_, rfl, rfl⟩, w0, w1⟩
  match cs, hl with
  | [c0, c1], _ =>
    simp at hv0 hv1
    rw [hv0, hv1]
    rfl
/-- Structs of three one-cell fields: two whole numbers, and whatever. -/
theorem elem_three {α : Type} {d : Kd α} {good : α → Prop} (hd : d.sz = 1) {k0 k1 : IntKind} {e : TypeId} {f0 f1 f2 : Field} (he : P.underlying e = some (.struct #[f0, f1, f2])) (hone : oneCellFields P #[f0, f1, f2] = true) (h0 : P.underlying f0.type = some (.int k0)) (h1 : P.underlying f1.type = some (.int k1)) (h2 : Elem enc P w base spare held d good f2.type) :
    Elem enc P w base spare held (Kd.pair (Kd.int k0) (Kd.pair (Kd.int k1) d)) (fun x => (Lit.int k0 x.1).wf = true ∧ (Lit.int k1 x.2.1).wf = true ∧ good x.2.2) e := by
  intro fuel cs y h hl
  have hl3 : cs.length = 3 := by
    rw [hl]
    show 1 + (1 + d.sz) = 3
    omega
  obtain ⟨n, hf⟩ := cells_of he hone hl3 h
  obtain ⟨v0, _, hv0, t0⟩ := hf 0 f0 rfl
  obtain ⟨v1, _, hv1, t1⟩ := hf 1 f1 rfl
  obtain ⟨v2, _, hv2, t2⟩ := hf 2 f2 rfl
  obtain ⟨a, e0, _, w0⟩ := DataW.trod_int h0 t0
  obtain ⟨b, e1, _, w1⟩ := DataW.trod_int h1 t1
  obtain ⟨c, hK, hg⟩ := h2 _ _ _ t2 (by rw [hd]; rfl)
  injection e0 with e0
  injection e1 with e1
  subst e0
  subst e1
  refine ⟨(a, b, c), ⟨[.int k0 a], [.int k1 b, v2], ?_, rfl, ⟨[.int k1 b], [v2], rfl, rfl, hK⟩⟩, w0, w1, hg⟩
  match cs, hl3 with
  | [c0, c1, c2], _ =>
    simp at hv0 hv1 hv2
    rw [hv0, hv1, hv2]
    rfl
end
end Go.Proofs.YtbghdbpaihkcjabDoor.Op
