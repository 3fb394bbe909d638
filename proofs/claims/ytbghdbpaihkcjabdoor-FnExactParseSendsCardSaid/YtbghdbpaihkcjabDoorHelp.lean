/- Small lemmas on lists: the first place at which a test holds. No conditions. -/
import Derived.Test.YtbghdbpaihkcjabDoorWWords
namespace Go.Proofs.YtbghdbpaihkcjabDoorW.Help
/-- The first place at which p holds, or -1. -/
def fi {α : Type} (p : α → Bool) (l : List α) : Int := if l.any p then (l.findIdx p : Int) else -1
theorem fi_hit {α : Type} {p : α → Bool} {l : List α} {k : Nat} (z : α) (hk : k < l.length) (h : p (l.getD k z) = true) (ha : ∀ j, j < k → p (l.getD j z) = false) : fi p l = (k : Int) := by
  have e : ∀ j, (hj : j < l.length) → l.getD j z = l[j] := fun j hj => by simp [List.getD_eq_getElem?_getD, hj]
  rw [e k hk] at h
  unfold fi
  rw [if_pos (List.any_eq_true.2 ⟨_, List.getElem_mem hk, h⟩)]
  have h2 : l.findIdx p = k := by
    rw [List.findIdx_eq hk]
    refine ⟨h, fun j hj => ?_⟩
    have := ha j hj
    rwa [e j (by omega)] at this
  rw [h2]
theorem fi_miss {α : Type} {p : α → Bool} {l : List α} (z : α) (ha : ∀ j, j < l.length → p (l.getD j z) = false) : fi p l = -1 := by
  unfold fi
  rw [if_neg]
  rw [List.any_eq_true]
  rintro ⟨x, hx, hp⟩
  obtain ⟨j, hj, rfl⟩ := List.mem_iff_getElem.1 hx
  have := ha j hj
  rw [List.getD_eq_getElem?_getD, List.getElem?_eq_getElem hj] at this
  simp only [Option.getD_some] at this
  rw [this] at hp
  cases hp
theorem fi_ge {α : Type} (p : α → Bool) (l : List α) : decide (fi p l ≥ 0) = l.any p := by
  unfold fi
  split
  · rename_i h; rw [h]; simp
  · rename_i h; rw [Bool.not_eq_true] at h; rw [h]; simp
end Go.Proofs.YtbghdbpaihkcjabDoorW.Help
