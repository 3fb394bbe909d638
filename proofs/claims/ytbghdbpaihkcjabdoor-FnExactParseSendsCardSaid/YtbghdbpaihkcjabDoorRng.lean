import Derived.Test.YtbghdbpaihkcjabDoorWMore
import Derived.Test.YtbghdbpaihkcjabDoorWKept
import Derived.Test.YtbghdbpaihkcjabDoorWShare
namespace Go.Proofs.YtbghdbpaihkcjabDoorW.Rng
open Go.RowKit Go.Proofs.YtbghdbpaihkcjabDoorW.PrintWords Go.Proofs.YtbghdbpaihkcjabDoorW.PrintMore
/-- The blocks from lo on and below hi. -/
def Bt (lo hi : Nat) (k : Nat) : Prop := lo ≤ k ∧ k < hi
theorem drawn_below {w w' : World} (h : Drawn0 w w') : Below w.heap.size w w' := by
  obtain ⟨n, rfl⟩ := h.out
  exact pw_below_drewN (Below.refl _ _) n
section
variable {α : Type} {d : Kd α} {e : Nat} {w W W' : World} {b lo hi : Nat} {ok S : Nat → Prop} {v : Value} {xs xs' : List α}
/-- A row of the call's own whose blocks lie from lo on and below hi. -/
structure OR (d : Kd α) (e : Nat) (W : World) (b lo hi : Nat) (v : Value) (xs : List α) : Prop where
  row : Kd.R d e W b (Bt lo hi) v xs
  top : hi ≤ W.heap.size
theorem OR.made (h : Kd.R d e W' W.heap.size ok v xs) (hb : b ≤ W.heap.size) : OR d e W' b W.heap.size W'.heap.size v xs :=
  ⟨Kd.R_lower (Kd.R_mono (Kd.R_bound h) (fun _ hk => ⟨hk.2.1, hk.2.2.1⟩)) hb, Nat.le_refl _⟩
theorem OR.below (h : OR d e W b lo hi v xs) (hb : Below W.heap.size W W') : OR d e W' b lo hi v xs := ⟨Kd.R_below h.row hb, Nat.le_trans h.top hb.size⟩
theorem OR.kept (h : OR d e W b lo hi v xs) (hk : Kept W W' S) (hs : ∀ k, Bt lo hi k → ¬ S k) : OR d e W' b lo hi v xs := ⟨Kd.R_kept h.row hk hs, Nat.le_trans h.top hk.1⟩
theorem OR.back (hE : d.E = []) (h : OR d e W b lo hi v xs) (hk : Kept W W' S) (h' : Kd.R d e W' b ok v xs') : OR d e W' b lo hi v xs' :=
  ⟨Kd.R_reok hE h' (fun k e_ => h.row.1 k e_), Nat.le_trans h.top hk.1⟩
/-- The same of rows of rows, no two of which share a block. -/
structure OS (d : Kd α) (e : Nat) (W : World) (b lo hi : Nat) (v : Value) (xs : List α) : Prop where
  row : Kd.S d e W b (Bt lo hi) v xs
  top : hi ≤ W.heap.size
theorem OS.made (h : Kd.S d e W' W.heap.size ok v xs) (hb : b ≤ W.heap.size) : OS d e W' b W.heap.size W'.heap.size v xs :=
  ⟨Kd.S_lower (Kd.S_mono (Kd.S_bound h) (fun _ hk => ⟨hk.2.1, hk.2.2.1⟩)) hb, Nat.le_refl _⟩
theorem OS.below (h : OS d e W b lo hi v xs) (hb : Below W.heap.size W W') : OS d e W' b lo hi v xs := ⟨Kd.S_below h.row hb, Nat.le_trans h.top hb.size⟩
theorem OS.kept (h : OS d e W b lo hi v xs) (hk : Kept W W' S) (hs : ∀ k, Bt lo hi k → ¬ S k) : OS d e W' b lo hi v xs := ⟨Kd.S_kept h.row hk hs, Nat.le_trans h.top hk.1⟩
theorem OS.back (h : OS d e W b lo hi v xs) (hk : Kept W W' S) (h' : Kd.S d e W' b (Bt lo hi) v xs') : OS d e W' b lo hi v xs' := ⟨h', Nat.le_trans h.top hk.1⟩
end
end Go.Proofs.YtbghdbpaihkcjabDoorW.Rng
