import Derived.Test.YtbghdbpaihkcjaaDoorWWords
import Derived.Sort.Grow
set_option linter.unusedVariables false
namespace Go.Proofs.YtbghdbpaihkcjaaDoor
open Go.RowKit Go.Proofs.YtbghdbpaihkcjaaDoorW.PrintWords
namespace Drw
theorem ask_drawn {α : Type} : ∀ (m : Ask α) (w : World), w.drawn ≤ (w.ask m).2.drawn
  | .done a, w => by
    unfold World.ask
    exact Nat.le_refl _
  | .ask what range k, w => by
    unfold World.ask
    by_cases h : (Question.extern what range).forced = true
    · simp only [h, if_true]
      exact ask_drawn _ _
    · simp only [h]
      have h2 := ask_drawn (k ((Question.extern what range).cut (w.tape w.drawn (Question.extern what range)))) { w with drawn := w.drawn + 1 }
      exact Nat.le_trans (Nat.le_succ _) h2
theorem sys_drawn (w : World) (c : Sys) : w.drawn ≤ (w.sys c).2.drawn := by
  have h := ask_drawn (Kernel.perform c w.os) w
  unfold World.sys
  split
  · exact Nat.le_refl _
  · rename_i heq
    rw [heq] at h
    exact h
theorem far_drawn {p : Program} {w w' : World} {a : Addr} {v : Value} {b : Bool} {l : List Addr} (h : w.farStore p a v b = .ok (w', l)) : w'.drawn = w.drawn := by
  unfold World.farStore at h
  split at h
  · split at h
    · rename_i hv
      cases h
      unfold World.viewStore at hv
      simp only [bind, Except.bind, pure, Except.pure] at hv
      repeat' split at hv
      all_goals first | (cases hv; done) | (cases hv; rfl) | (injection hv with hv; injection hv with hv _; rw [← hv])
    · cases h
  · cases h
theorem run_drawn {α : Type} {p : Program} : ∀ (m : Sem α) (w w' : World) (a : α), m.run p w = .ok a w' → w.drawn ≤ w'.drawn := by
  intro m
  induction m with
  | pure a => intro w w' b h; unfold Sem.run at h; cases h; exact Nat.le_refl _
  | load md a k ih =>
    intro w w' b h
    unfold Sem.run at h
    split at h
    · exact ih _ _ _ _ h
    · split at h
      · exact ih _ _ _ _ h
      · cases h
  | store md a v k ih =>
    intro w w' b h
    have key : (match w.cell? a with
      | some _ => if w.frozen? a then .halt (.unsupported (.unsafePointer "a write to bytes that a string shares")) w else k.run p (w.setCell a v)
      | none => match w.farStore p a v (md == .atomic) with
        | .ok (w, _) => k.run p w
        | .error h => .halt h w) = Result.ok b w' ∨ False := by
      cases v <;> first | exact .inl h | (unfold Sem.run at h; cases h)
    rcases key with key | key
    · split at key
      · split at key
        · cases key
        · have h2 := ih _ _ _ key
          exact h2
      · split at key
        · rename_i hf
          exact Nat.le_trans (Nat.le_of_eq (far_drawn hf).symm) (ih _ _ _ key)
        · cases key
    · exact key.elim
  | new o k ih => intro w w' b h; unfold Sem.run at h; have h2 := ih _ _ _ _ h; exact h2
  | shape r k ih => intro w w' b h; unfold Sem.run at h; exact ih _ _ _ _ h
  | freeze a n k ih =>
    intro w w' b h
    unfold Sem.run at h
    refine Nat.le_trans (Nat.le_of_eq ?_) (ih _ _ _ h)
    unfold World.freeze
    split <;> rfl
  | frozen a k ih => intro w w' b h; unfold Sem.run at h; exact ih _ _ _ _ h
  | getObj r k ih =>
    intro w w' b h
    unfold Sem.run at h
    split at h
    · cases h
    · exact ih _ _ _ _ h
    · cases h
  | setObj r o k ih =>
    intro w w' b h
    unfold Sem.run at h
    split at h
    · cases h
    · have h2 := ih _ _ _ h
      exact h2
    · cases h
  | choose q k ih =>
    intro w w' b h
    unfold Sem.run at h
    split at h
    · exact ih _ _ _ _ h
    · have h2 := ih _ _ _ _ h
      exact Nat.le_trans (Nat.le_succ _) h2
  | sys c k ih => intro w w' b h; unfold Sem.run at h; exact Nat.le_trans (sys_drawn w c) (ih _ _ _ _ h)
  | program k ih => intro w w' b h; unfold Sem.run at h; exact ih _ _ _ _ h
  | mark m k ih => intro w w' b h; unfold Sem.run at h; exact ih _ _ _ h
  | halt h0 => intro w w' b h; unfold Sem.run at h; cases h
theorem upon_drawn {P : Program} {o : Oper} {a : Act} {W : World} {K : Act → World → Prop} {Q : Exit → Act → World → Prop} (hval : ∀ n w', (execOp a.eval o).run P W = .ok n w' → ∃ v, n = .value v) (H : o.wp P a W (fun a' w' => W.drawn ≤ w'.drawn → K a' w') Q) : o.wp P a W K Q := by
  unfold Oper.wp at *
  cases hr : (execOp a.eval o).run P W with
  | ok n w1 =>
    rw [hr] at H
    obtain ⟨v, rfl⟩ := hval n w1 hr
    exact H (run_drawn _ _ _ _ hr)
  | halt h w1 =>
    rw [hr] at H
    cases h <;> exact H
theorem step_drawn {P : Program} {ops : Array Oper} {o : Oper} {a : Act} {W : World} {K : Act → World → Prop} {Q : Exit → Act → World → Prop} (hval : ∀ n w', (execOp a.eval o).run P W = .ok n w' → ∃ v, n = .value v) (H : if Region.wanted o (yielded ops a.tmps) = true then Oper.wp P o a W (fun a' w' => W.drawn ≤ w'.drawn → K a' w') Q else (fun (a' : Act) (w' : World) => W.drawn ≤ w'.drawn → K a' w') (a.put o.dst undef) W) : if Region.wanted o (yielded ops a.tmps) = true then Oper.wp P o a W K Q else K (a.put o.dst undef) W := by
  by_cases c : Region.wanted o (yielded ops a.tmps) = true
  · rw [if_pos c] at *
    exact upon_drawn hval H
  · rw [if_neg c] at *
    exact H (Nat.le_refl _)
theorem ev_drawn {P : Program} {ops : Array Oper} {rest : List Oper} {o : Oper} {a : Act} {W : World} {Q : Exit → Act → World → Prop} (hgd : o.guard = none) (hval : ∀ n w', (execOp a.eval o).run P W = .ok n w' → ∃ v, n = .value v) (H : wpList P ops (fun e a' w' => e = .normal ∧ (W.drawn ≤ w'.drawn → wpList P ops Q rest a' w')) [o] a W) : wpList P ops Q (o :: rest) a W := by
  refine wpList_plain hgd fun K hK => ?_
  unfold wpList at H
  have hw : Region.wanted o (yielded ops a.tmps) = true := by simp only [Region.wanted, hgd]
  rw [if_pos hw] at H
  rcases H with H | ⟨_, _, _, H, _⟩
  · unfold Oper.wp at *
    cases hr : (execOp a.eval o).run P W with
    | ok n w1 =>
      rw [hr] at H
      obtain ⟨v, rfl⟩ := hval n w1 hr
      unfold Oper.upon wpList at H
      exact hK _ _ (H.2 (run_drawn _ _ _ _ hr))
    | halt h w1 =>
      rw [hr] at H
      cases h <;> first | exact H.elim | exact absurd H.1 (by simp)
  · cases H
theorem val_of {P : Program} {o : Oper} {a : Act} {W w1 : World} {v : Value} (hrun : (execOp a.eval o).run P W = .ok (.value v) w1) : ∀ n w', (execOp a.eval o).run P W = .ok n w' → ∃ v, n = .value v := by
  intro n w' h
  rw [hrun] at h
  injection h with h _
  exact ⟨v, h.symm⟩
theorem val_append {P : Program} {o : Oper} {a : Act} {W : World} {s x : Operand} {t : TypeId} (ho : o.op = .call { callee := .builtin .append, args := #[s, x], argTypes := #[t, t] }) : ∀ n w', (execOp a.eval o).run P W = .ok n w' → ∃ v, n = .value v := by
  intro n w' h
  unfold execOp at h
  simp only [ho, resolve, invoke, builtin, Sem.run_bind, Sem.run_pure, Result.andThen_ok, List.map_toArray, List.map_cons, List.map_nil] at h
  cases hr : (Builtin.append_ #[t, t] o.type #[a.eval s, a.eval x]).run P W with
  | ok v w1 =>
    rw [hr] at h
    simp only [Result.andThen_ok] at h
    injection h with h _
    exact ⟨_, h.symm⟩
  | halt h0 w1 =>
    rw [hr] at h
    cases h
/-- Nothing below B turns, and no draw is taken back. -/
structure BelowD (B : Nat) (w w' : World) : Prop where
  below : Below B w w'
  drawn : w.drawn ≤ w'.drawn
theorem BelowD.refl (B : Nat) (w : World) : BelowD B w w := ⟨Below.refl B w, Nat.le_refl _⟩
theorem BelowD.cell {w w' : World} (h : BelowD w.heap.size w w') {a : Addr} (ha : a.block < w.heap.size) : w'.cell? a = w.cell? a := h.below.cell ha
theorem below_size {w W : World} (h : BelowD w.heap.size w W) : w.heap.size ≤ W.heap.size := h.below.size
theorem below_step {w W w2 : World} (h : BelowD w.heap.size w W) (k : BelowD W.heap.size W w2) : BelowD w.heap.size w w2 := ⟨Go.Proofs.YtbghdbpaihkcjaaDoorW.PrintWords.below_step h.below k.below, Nat.le_trans h.drawn k.drawn⟩
theorem below_alloc {w W : World} (h : BelowD w.heap.size w W) (o : Obj) : BelowD w.heap.size w (W.alloc o) := ⟨Go.Proofs.YtbghdbpaihkcjaaDoorW.PrintWords.below_alloc h.below o, h.drawn⟩
theorem pw_below_drewN {B : Nat} {w W : World} (h : BelowD B w W) (n : Nat) : BelowD B w (W.drewN n) := ⟨Go.Proofs.YtbghdbpaihkcjaaDoorW.PrintWords.pw_below_drewN h.below n, Nat.le_trans h.drawn (Nat.le_add_right _ _)⟩
theorem below_drew1 {B : Nat} {w W : World} (h : BelowD B w W) : BelowD B w W.drew := ⟨Go.Proofs.YtbghdbpaihkcjaaDoorW.PrintWords.below_drew1 h.below, Nat.le_trans h.drawn (Nat.le_succ _)⟩
theorem below_set {w W : World} {g j : Nat} {v : Value} (h : BelowD w.heap.size w W) (hg : w.heap.size ≤ g) : BelowD w.heap.size w (W.setCell ⟨g, j, none⟩ v) := ⟨Go.Proofs.YtbghdbpaihkcjaaDoorW.PrintWords.below_set h.below hg, h.drawn⟩
theorem blk_below {w w1 : World} {g : Nat} {o : Obj} (h : w.heap[g]? = some o) (hb : BelowD w.heap.size w w1) : w1.heap[g]? = some o := Go.Proofs.YtbghdbpaihkcjaaDoorW.PrintWords.blk_below h hb.below
theorem box_event {P : Program} {ops : Array Oper} {rest : List Oper} {o : Oper} {a : Act} {Q : Exit → Act → World → Prop} {W : World} (hgd : o.guard = none) {N : Tmp} (hd : o.dst = some N) {cs : Array Value} {t : TypeId}
    (hrun : (execOp a.eval o).run P W = .ok (.value (.pointer (some ⟨W.heap.size, 0, none⟩))) (W.alloc (.cells cs t (0, 0))))
    (h : ∀ g, g = W.heap.size → ∀ w1, w1.heap[g]? = some (.cells cs t (0, 0)) → BelowD W.heap.size W w1 → wpList P ops Q rest (a.put o.dst (.pointer (some ⟨g, 0, none⟩))) w1) : wpList P ops Q (o :: rest) a W :=
  ev_drawn hgd (val_of hrun) (Go.Proofs.YtbghdbpaihkcjaaDoorW.PrintWords.box_event hgd hd hrun (fun g hg w1 hc hb => ⟨rfl, fun hdr => h g hg w1 hc ⟨hb, hdr⟩⟩))
theorem R_lit {P : Program} {ops : Array Oper} {rest : List Oper} {o : Oper} {a : Act} {Q : Exit → Act → World → Prop} {α : Type} (d : Kd α) {w0 W : World} (base e : Nat) (hgd : o.guard = none) {N : Tmp} (hd : o.dst = some N) {xs : List α} {inner : List Value} {ok okp : Nat → Prop}
    (hrun : (execOp a.eval o).run P W = .ok (.value (.slice (some ⟨W.heap.size, 0, none⟩) xs.length xs.length)) (W.alloc (.cells inner.toArray e)))
    (hrep : Reps (d.M W base okp) d.sz xs inner) (hok : ∀ k, okp k → ok k) (hfresh : ok W.heap.size) (HB : BelowD base w0 W) (hbase : base ≤ W.heap.size) (hm : xs.length ≤ 9223372036854775807)
    (h : ∀ v1 w1, d.R e w1 base ok v1 xs → BelowD base w0 w1 → W.grownBy w1 none → (∃ b, v1.ownBlock = some b ∧ W.heap.size ≤ b) → wpList P ops Q rest (a.put o.dst v1) w1) : wpList P ops Q (o :: rest) a W :=
  ev_drawn hgd (val_of hrun) (Kd.R_lit d base e hgd hd hrun hrep hok hfresh HB.below hbase hm (fun v1 w1 hr hb hg hat => ⟨rfl, fun hdr => h v1 w1 hr ⟨hb, Nat.le_trans HB.drawn hdr⟩ hg hat⟩))
theorem R_lit_step {P : Program} {ops : Array Oper} {o : Oper} {a : Act} {Q : Exit → Act → World → Prop} {Kc : Act → World → Prop} {α : Type} (d : Kd α) {w0 W : World} (base e : Nat) (hw : Region.wanted o (yielded ops a.tmps) = true) {N : Tmp} (hd : o.dst = some N) {xs : List α} {inner : List Value} {ok okp : Nat → Prop}
    (hrun : (execOp a.eval o).run P W = .ok (.value (.slice (some ⟨W.heap.size, 0, none⟩) xs.length xs.length)) (W.alloc (.cells inner.toArray e)))
    (hrep : Reps (d.M W base okp) d.sz xs inner) (hok : ∀ k, okp k → ok k) (hfresh : ok W.heap.size) (HB : BelowD base w0 W) (hbase : base ≤ W.heap.size) (hm : xs.length ≤ 9223372036854775807)
    (h : ∀ v1 w1, d.R e w1 base ok v1 xs → BelowD base w0 w1 → W.grownBy w1 none → (∃ b, v1.ownBlock = some b ∧ W.heap.size ≤ b) → Kc (a.put o.dst v1) w1) : if Region.wanted o (yielded ops a.tmps) = true then Oper.wp P o a W Kc Q else Kc (a.put o.dst undef) W :=
  step_drawn (val_of hrun) (Kd.R_lit_step d base e hw hd hrun hrep hok hfresh HB.below hbase hm (fun v1 w1 hr hb hg hat hdr => h v1 w1 hr ⟨hb, Nat.le_trans HB.drawn hdr⟩ hg hat))
theorem R_append {P : Program} {ops : Array Oper} {rest : List Oper} {o : Oper} {a : Act} {Q : Exit → Act → World → Prop} {α : Type} (d : Kd α) {w0 W : World} (base : Nat) (hgd : o.guard = none) (s x : Operand) (t e : TypeId) (z : Value) (bytes : Nat)
    (ho : o.op = .call { callee := .builtin .append, args := #[s, x], argTypes := #[t, t] })
    (ht : P.underlying t = some (.slice e)) (hinfo : (P.info? e).map (fun i => (i.zero, i.size, i.bytes)) = some (some z, d.sz, bytes)) (hz : z.cells.size = d.sz) (hs0 : 0 < d.sz) (hb0 : 0 < bytes)
    (v : Value) (xs : List α) (p : α) (cs : List Value) (ok okp : Nat → Prop) (hs : a.eval s = v) (hx : a.eval x = .slice (some ⟨W.heap.size, 0, none⟩) 1 1) (hp : d.M W base okp p cs) (hokp : ∀ k, okp k → ok k ∧ some k ≠ v.ownBlock) (hfresh : ∀ k, W.heap.size ≤ k → ok k)
    (HO : d.R e W base ok v xs) (HB : BelowD base w0 W) (hbase : base ≤ W.heap.size) (hl : (xs.length + 1) * bytes ≤ 140737488355328)
    (h : ∀ v1 w1, d.R e w1 base ok v1 (xs ++ [p]) → BelowD base w0 w1 → W.grownBy w1 v.ownBlock → (v1.ownBlock = v.ownBlock ∨ ∃ b, v1.ownBlock = some b ∧ W.heap.size ≤ b) → wpList P ops Q rest (a.put o.dst v1) w1) :
    wpList P ops Q (o :: rest) a (W.alloc (.cells cs.toArray e)) :=
  ev_drawn hgd (val_append ho) (Kd.R_append d base hgd s x t e z bytes ho ht hinfo hz hs0 hb0 v xs p cs ok okp hs hx hp hokp hfresh HO HB.below hbase hl (fun v1 w1 hr hb hg hat => ⟨rfl, fun hdr => h v1 w1 hr ⟨hb, Nat.le_trans HB.drawn hdr⟩ hg hat⟩))
theorem BelowD.grow {w w' : World} (h : BelowD w.heap.size w w') : ∃ q os, w' = Go.Sort.grow (w.drewN q) os := by
  refine ⟨w'.drawn - w.drawn, w'.heap.extract w.heap.size w'.heap.size, ?_⟩
  have hh : w'.heap = w.heap ++ w'.heap.extract w.heap.size w'.heap.size := by
    apply Array.ext_getElem?
    intro i
    by_cases hi : i < w.heap.size
    · rw [Array.getElem?_append_left hi]
      exact h.below.block i hi
    · rw [Array.getElem?_append_right (by omega), Array.getElem?_extract]
      by_cases h2 : i < w'.heap.size
      · rw [if_pos (by omega)]
        congr 1
        omega
      · rw [if_neg (by omega), Array.getElem?_eq_none (by omega)]
  have h1 := h.below.os
  have h2 := h.below.tape
  have h3 := h.below.output
  have h4 := h.drawn
  unfold Go.Sort.grow World.drewN
  obtain ⟨heap, tape, drawn, os, output⟩ := w'
  simp only at *
  subst h1 h2 h3
  congr 1
  omega
end Drw

end Go.Proofs.YtbghdbpaihkcjaaDoor
