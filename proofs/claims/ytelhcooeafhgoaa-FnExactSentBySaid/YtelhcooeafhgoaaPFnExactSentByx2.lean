-- Written by a program of this claim, over the kit's print: the functions that a law reaches, their plain forms and the walks.
import Derived.Test.YtelhcooeafhgoaaPFnExactSentByx0
import Derived.Test.YtelhcooeafhgoaaPFnExactSentByx1
namespace Go.Proofs.Ytelhcooeafhgoaa.PFnExactSentBy
open Go.RowKit Go.Proofs.YtelhcooeafhgoaaW.PrintWords Go.Proofs.YtelhcooeafhgoaaW.PrintLast Go.Proofs.YtelhcooeafhgoaaW.PrintMore
attribute [local go_sem] max2_int min2_int max_two min_two max_three min_three max_four min_four   -- for this text's walks alone
set_option linter.unusedVariables false
set_option linter.unusedSimpArgs false

/-! ### spec_deArrivals: function 95 -/
mutual
def spec_deArrivals.l0 : Nat → Int → Int → List (S67) → List Int → Int → Int → Option (List Int × Bool)
  | 0, _, _, _, _, _, _ => none
  | k + 1, x0, x1, x2, x8, x22, x23 => if x23 < x22 then (if 0 ≤ x23 then (if x23 < (x8.length : Int) then (spec_deArrivals.l0 k x0 x1 x2 (x8.set (x23 : Int).toNat (-1)) x22 (wrap64 (x23 + 1))) else (none)) else (none)) else (if 0 < (x8.length : Int) then (spec_deArrivals.l1 k x0 x1 x2 (x8.set (0 : Int).toNat 0) x2 (x2.length : Int) 0) else (none))
def spec_deArrivals.l1 : Nat → Int → Int → List (S67) → List Int → List (S67) → Int → Int → Option (List Int × Bool)
  | 0, _, _, _, _, _, _, _ => none
  | k + 1, x0, x1, x2, x8, x32, x33, x34 => if x34 < x33 then (if 0 ≤ x34 then (if x34 < (x32.length : Int) then ((spec_l1In.f ((rd_T67 x32 x34).f0) 0 (wrap64 (x1 - 1))).bind fun t115 => (if t115 = true then ((spec_l1In.f ((rd_T67 x32 x34).f1) 1 (wrap64 (x1 - 1))).bind fun t116 => (if t116 = true then (if ((rd_T67 x32 x34).f0) = ((rd_T67 x32 x34).f1) then (spec_deArrivals.j2 k x0 x1 x2 x8 x34 x32 x33 x34 true ((rd_T67 x32 x34).f0) ((rd_T67 x32 x34).f1) ((rd_T67 x32 x34).f2)) else ((spec_l1In.f ((rd_T67 x32 x34).f2) 0 60).bind fun t117 => (if t117 = true then (if 0 ≤ ((rd_T67 x32 x34).f1) then (if ((rd_T67 x32 x34).f1) < (x8.length : Int) then (spec_deArrivals.j2 k x0 x1 x2 x8 x34 x32 x33 x34 (decide ((rd x8 ((rd_T67 x32 x34).f1)) ≥ 0)) ((rd_T67 x32 x34).f0) ((rd_T67 x32 x34).f1) ((rd_T67 x32 x34).f2)) else (none)) else (none)) else (spec_deArrivals.j2 k x0 x1 x2 x8 x34 x32 x33 x34 true ((rd_T67 x32 x34).f0) ((rd_T67 x32 x34).f1) ((rd_T67 x32 x34).f2))))) else (spec_deArrivals.j2 k x0 x1 x2 x8 x34 x32 x33 x34 true ((rd_T67 x32 x34).f0) ((rd_T67 x32 x34).f1) ((rd_T67 x32 x34).f2)))) else (spec_deArrivals.j2 k x0 x1 x2 x8 x34 x32 x33 x34 true ((rd_T67 x32 x34).f0) ((rd_T67 x32 x34).f1) ((rd_T67 x32 x34).f2)))) else (none)) else (none)) else (spec_deArrivals.l3 k x8 x2 (x2.length : Int) 0)
def spec_deArrivals.j2 : Nat → Int → Int → List (S67) → List Int → Int → List (S67) → Int → Int → Bool → Int → Int → Int → Option (List Int × Bool)
  | 0, _, _, _, _, _, _, _, _, _, _, _, _ => none
  | k + 1, x0, x1, x2, x8, x10, x32, x33, x34, x73, x115000, x115001, x115002 => if x73 = true then (some (([] : List Int), false)) else (if 0 ≤ x115001 then (if x115001 < (x8.length : Int) then (if 0 ≤ x10 then (if x10 ≤ (x2.length : Int) then ((some (x2.take (x10 : Int).toNat : List (S67))).bind fun y120 => (spec_deArrivals.l2 k x0 x1 x2 (x8.set (x115001 : Int).toNat (wrap64 (x115002 + x0))) x32 x33 x34 y120 (y120.length : Int) 0 x115000 x115001 x115002)) else (none)) else (none)) else (none)) else (none))
def spec_deArrivals.l2 : Nat → Int → Int → List (S67) → List Int → List (S67) → Int → Int → List (S67) → Int → Int → Int → Int → Int → Option (List Int × Bool)
  | 0, _, _, _, _, _, _, _, _, _, _, _, _, _ => none
  | k + 1, x0, x1, x2, x8, x32, x33, x34, x84, x85, x86, x115000, x115001, x115002 => if x86 < x85 then (if 0 ≤ x86 then (if x86 < (x84.length : Int) then (if ((rd_T67 x84 x86).f0) = x115000 then (if ((rd_T67 x84 x86).f2) = x115002 then (some (([] : List Int), false)) else (spec_deArrivals.l2 k x0 x1 x2 x8 x32 x33 x34 x84 x85 (wrap64 (x86 + 1)) x115000 x115001 x115002)) else (spec_deArrivals.l2 k x0 x1 x2 x8 x32 x33 x34 x84 x85 (wrap64 (x86 + 1)) x115000 x115001 x115002)) else (none)) else (none)) else (spec_deArrivals.l1 k x0 x1 x2 x8 x32 x33 (wrap64 (x34 + 1)))
def spec_deArrivals.l3 : Nat → List Int → List (S67) → Int → Int → Option (List Int × Bool)
  | 0, _, _, _, _ => none
  | k + 1, x8, x104, x105, x106 => if x106 < x105 then (if 0 ≤ x106 then (if x106 < (x104.length : Int) then (if 0 ≤ ((rd_T67 x104 x106).f0) then (if ((rd_T67 x104 x106).f0) < (x8.length : Int) then (if (rd x8 ((rd_T67 x104 x106).f0)) < 0 then (some (([] : List Int), false)) else (if (rd x8 ((rd_T67 x104 x106).f0)) > ((rd_T67 x104 x106).f2) then (some (([] : List Int), false)) else (spec_deArrivals.l3 k x8 x104 x105 (wrap64 (x106 + 1))))) else (none)) else (none)) else (none)) else (none)) else (some (x8, true))
end
def spec_deArrivals.f (k : Nat) (a0 : Int) (a1 : Int) (l2 : List (S67)) : Option (List Int × Bool) := if (l2.length : Int) > 40 then (some (([] : List Int), false)) else (if 0 ≤ a1 then (if (a1 : Int).toNat ≤ 35184372088832 then ((some (List.replicate (a1 : Int).toNat 0 : List Int)).bind fun y108 => (spec_deArrivals.l0 k a0 a1 l2 y108 (y108.length : Int) 0)) else (none)) else (none))
theorem spec_deArrivals.mono_l : ∀ k, (∀ y0 y1 y2 y3 y4 y5, LeO (spec_deArrivals.l0 k y0 y1 y2 y3 y4 y5) (spec_deArrivals.l0 (k + 1) y0 y1 y2 y3 y4 y5)) ∧ (∀ y0 y1 y2 y3 y4 y5 y6, LeO (spec_deArrivals.l1 k y0 y1 y2 y3 y4 y5 y6) (spec_deArrivals.l1 (k + 1) y0 y1 y2 y3 y4 y5 y6)) ∧ (∀ y0 y1 y2 y3 y4 y5 y6 y7 y8 y9 y10 y11, LeO (spec_deArrivals.j2 k y0 y1 y2 y3 y4 y5 y6 y7 y8 y9 y10 y11) (spec_deArrivals.j2 (k + 1) y0 y1 y2 y3 y4 y5 y6 y7 y8 y9 y10 y11)) ∧ (∀ y0 y1 y2 y3 y4 y5 y6 y7 y8 y9 y10 y11 y12, LeO (spec_deArrivals.l2 k y0 y1 y2 y3 y4 y5 y6 y7 y8 y9 y10 y11 y12) (spec_deArrivals.l2 (k + 1) y0 y1 y2 y3 y4 y5 y6 y7 y8 y9 y10 y11 y12)) ∧ (∀ y0 y1 y2 y3, LeO (spec_deArrivals.l3 k y0 y1 y2 y3) (spec_deArrivals.l3 (k + 1) y0 y1 y2 y3))
  | 0 => ⟨fun _ _ _ _ _ _ r h => by simp [spec_deArrivals.l0] at h, fun _ _ _ _ _ _ _ r h => by simp [spec_deArrivals.l1] at h, fun _ _ _ _ _ _ _ _ _ _ _ _ r h => by simp [spec_deArrivals.j2] at h, fun _ _ _ _ _ _ _ _ _ _ _ _ _ r h => by simp [spec_deArrivals.l2] at h, fun _ _ _ _ r h => by simp [spec_deArrivals.l3] at h⟩
  | k + 1 => by
    obtain ⟨ih0, ih1, ih2, ih3, ih4⟩ := spec_deArrivals.mono_l k
    refine ⟨?_, ?_, ?_, ?_, ?_⟩
    · intro y0 y1 y2 y3 y4 y5
      unfold spec_deArrivals.l0
      repeat' first
      | (with_reducible exact ih0 _ _ _ _ _ _)
      | (with_reducible exact ih1 _ _ _ _ _ _ _)
      | (with_reducible exact ih2 _ _ _ _ _ _ _ _ _ _ _ _)
      | (with_reducible exact ih3 _ _ _ _ _ _ _ _ _ _ _ _ _)
      | (with_reducible exact ih4 _ _ _ _)
      | (with_reducible exact LeO.refl _)
      | (with_reducible exact LeO.none _)
      | (with_reducible refine LeO.ite ?_ ?_)
      | (with_reducible refine LeO.bind ?_ (fun _ => ?_))
      | exact ih0 _ _ _ _ _ _
      | exact ih1 _ _ _ _ _ _ _
      | exact ih2 _ _ _ _ _ _ _ _ _ _ _ _
      | exact ih3 _ _ _ _ _ _ _ _ _ _ _ _ _
      | exact ih4 _ _ _ _
      | exact LeO.none _
      | refine LeO.ite ?_ ?_
      | refine LeO.bind ?_ (fun _ => ?_)
    · intro y0 y1 y2 y3 y4 y5 y6
      unfold spec_deArrivals.l1
      repeat' first
      | (with_reducible exact ih0 _ _ _ _ _ _)
      | (with_reducible exact ih1 _ _ _ _ _ _ _)
      | (with_reducible exact ih2 _ _ _ _ _ _ _ _ _ _ _ _)
      | (with_reducible exact ih3 _ _ _ _ _ _ _ _ _ _ _ _ _)
      | (with_reducible exact ih4 _ _ _ _)
      | (with_reducible exact LeO.refl _)
      | (with_reducible exact LeO.none _)
      | (with_reducible refine LeO.ite ?_ ?_)
      | (with_reducible refine LeO.bind ?_ (fun _ => ?_))
      | exact ih0 _ _ _ _ _ _
      | exact ih1 _ _ _ _ _ _ _
      | exact ih2 _ _ _ _ _ _ _ _ _ _ _ _
      | exact ih3 _ _ _ _ _ _ _ _ _ _ _ _ _
      | exact ih4 _ _ _ _
      | exact LeO.none _
      | refine LeO.ite ?_ ?_
      | refine LeO.bind ?_ (fun _ => ?_)
    · intro y0 y1 y2 y3 y4 y5 y6 y7 y8 y9 y10 y11
      unfold spec_deArrivals.j2
      repeat' first
      | (with_reducible exact ih0 _ _ _ _ _ _)
      | (with_reducible exact ih1 _ _ _ _ _ _ _)
      | (with_reducible exact ih2 _ _ _ _ _ _ _ _ _ _ _ _)
      | (with_reducible exact ih3 _ _ _ _ _ _ _ _ _ _ _ _ _)
      | (with_reducible exact ih4 _ _ _ _)
      | (with_reducible exact LeO.refl _)
      | (with_reducible exact LeO.none _)
      | (with_reducible refine LeO.ite ?_ ?_)
      | (with_reducible refine LeO.bind ?_ (fun _ => ?_))
      | exact ih0 _ _ _ _ _ _
      | exact ih1 _ _ _ _ _ _ _
      | exact ih2 _ _ _ _ _ _ _ _ _ _ _ _
      | exact ih3 _ _ _ _ _ _ _ _ _ _ _ _ _
      | exact ih4 _ _ _ _
      | exact LeO.none _
      | refine LeO.ite ?_ ?_
      | refine LeO.bind ?_ (fun _ => ?_)
    · intro y0 y1 y2 y3 y4 y5 y6 y7 y8 y9 y10 y11 y12
      unfold spec_deArrivals.l2
      repeat' first
      | (with_reducible exact ih0 _ _ _ _ _ _)
      | (with_reducible exact ih1 _ _ _ _ _ _ _)
      | (with_reducible exact ih2 _ _ _ _ _ _ _ _ _ _ _ _)
      | (with_reducible exact ih3 _ _ _ _ _ _ _ _ _ _ _ _ _)
      | (with_reducible exact ih4 _ _ _ _)
      | (with_reducible exact LeO.refl _)
      | (with_reducible exact LeO.none _)
      | (with_reducible refine LeO.ite ?_ ?_)
      | (with_reducible refine LeO.bind ?_ (fun _ => ?_))
      | exact ih0 _ _ _ _ _ _
      | exact ih1 _ _ _ _ _ _ _
      | exact ih2 _ _ _ _ _ _ _ _ _ _ _ _
      | exact ih3 _ _ _ _ _ _ _ _ _ _ _ _ _
      | exact ih4 _ _ _ _
      | exact LeO.none _
      | refine LeO.ite ?_ ?_
      | refine LeO.bind ?_ (fun _ => ?_)
    · intro y0 y1 y2 y3
      unfold spec_deArrivals.l3
      repeat' first
      | (with_reducible exact ih0 _ _ _ _ _ _)
      | (with_reducible exact ih1 _ _ _ _ _ _ _)
      | (with_reducible exact ih2 _ _ _ _ _ _ _ _ _ _ _ _)
      | (with_reducible exact ih3 _ _ _ _ _ _ _ _ _ _ _ _ _)
      | (with_reducible exact ih4 _ _ _ _)
      | (with_reducible exact LeO.refl _)
      | (with_reducible exact LeO.none _)
      | (with_reducible refine LeO.ite ?_ ?_)
      | (with_reducible refine LeO.bind ?_ (fun _ => ?_))
      | exact ih0 _ _ _ _ _ _
      | exact ih1 _ _ _ _ _ _ _
      | exact ih2 _ _ _ _ _ _ _ _ _ _ _ _
      | exact ih3 _ _ _ _ _ _ _ _ _ _ _ _ _
      | exact ih4 _ _ _ _
      | exact LeO.none _
      | refine LeO.ite ?_ ?_
      | refine LeO.bind ?_ (fun _ => ?_)
theorem spec_deArrivals.mono : ∀ a0 a1 a2 k, LeO (spec_deArrivals.f k a0 a1 a2) (spec_deArrivals.f (k + 1) a0 a1 a2) := by
  intro a0 a1 a2 k
  obtain ⟨ih0, ih1, ih2, ih3, ih4⟩ := spec_deArrivals.mono_l k
  unfold spec_deArrivals.f
  repeat' first
      | (with_reducible exact ih0 _ _ _ _ _ _)
      | (with_reducible exact ih1 _ _ _ _ _ _ _)
      | (with_reducible exact ih2 _ _ _ _ _ _ _ _ _ _ _ _)
      | (with_reducible exact ih3 _ _ _ _ _ _ _ _ _ _ _ _ _)
      | (with_reducible exact ih4 _ _ _ _)
      | (with_reducible exact LeO.refl _)
      | (with_reducible exact LeO.none _)
      | (with_reducible refine LeO.ite ?_ ?_)
      | (with_reducible refine LeO.bind ?_ (fun _ => ?_))
      | exact ih0 _ _ _ _ _ _
      | exact ih1 _ _ _ _ _ _ _
      | exact ih2 _ _ _ _ _ _ _ _ _ _ _ _
      | exact ih3 _ _ _ _ _ _ _ _ _ _ _ _ _
      | exact ih4 _ _ _ _
      | exact LeO.none _
      | refine LeO.ite ?_ ?_
      | refine LeO.bind ?_ (fun _ => ?_)
set_option maxHeartbeats 8000000 in
set_option maxRecDepth 100000 in
theorem spec_deArrivals.calls (k : Nat) (a0 : Int) (a1 : Int) (A2 : Option Addr) (c2 : Nat) (l2 : List (S67)) (r1 : List Int) (r2 : Bool) (w : World) (hr2 : Kd.C k67 w A2 l2.length l2) (hc2 : l2.length ≤ c2) (h : spec_deArrivals.f k a0 a1 l2 = some (r1, r2)) :
    Calls Try.prog 95 #[.int .i64 a0, .int .i64 a1, .slice A2 l2.length c2] w fun e w' => ∃ v0_ : Value, e = .returned (.tuple #[v0_, .bool r2]) ∧ Kd.R (Kd.int .i64) 3 w' w.heap.size (fun _ => True) v0_ r1 ∧ Below w.heap.size w w' := by
  have hu67 := Try.underlying67
  have HR2 := Aside0.mk hr2
  have HC2 := Aside0.mk hc2
  clear hr2 hc2
  have HB := Aside0.mk (Below.refl w.heap.size w)
  have H : (if (l2.length : Int) > 40 then (some (([] : List Int), false)) else (if 0 ≤ a1 then (if (a1 : Int).toNat ≤ 35184372088832 then ((some (List.replicate (a1 : Int).toNat 0 : List Int)).bind fun y108 => (spec_deArrivals.l0 k a0 a1 l2 y108 (y108.length : Int) 0)) else (none)) else (none))) = some (r1, r2) := h
  clear h
  by_cases c4 : (l2.length : Int) > 40
  · rw [if_pos c4] at H
    have c4b0 : decide (40 < (l2.length : Int)) = true := decide_eq_true c4
    have c4b1 : decide (40 < l2.length) = true := decide_eq_true (by omega)
    clear c4
    simp only [Option.some.injEq, Prod.mk.injEq] at H
    obtain ⟨rfl, rfl⟩ := H
    go_enter Try.func95, Try.ntmps95
    go_wp2
    repeat (go_quiet (fail); try go_wp2)
    go_ret2
    exact ⟨_, by first | rfl | (simp [errW_none, errW_some] <;> rfl) | (simp [*, errW_none, errW_some] <;> rfl), by first | exact Kd.R_nil _ _ _ _ _ | exact Kd.N_nil _ _ _ _ _ | exact Kd.V_nil _ _ _ _ _ | exact Kd.Q_nil _ _ _ _ _ | exact Kd.S_nil _ _ _ _ _, by repeat (first | (with_reducible first | exact HB.out | apply below_alloc | apply pw_below_drewN | apply below_drew1) | exact HB.out)⟩
  · rw [if_neg c4] at H
    have c4b0 : decide (40 < (l2.length : Int)) = false := decide_eq_false c4
    have c4b1 : decide (40 < l2.length) = false := decide_eq_false (by omega)
    clear c4
    by_cases c5 : 0 ≤ a1
    · rw [if_pos c5] at H
      have c5b0 := eq_true c5
      have c5b1 : decide (0 ≤ a1) = true := decide_eq_true c5
      clear c5
      by_cases c6 : (a1 : Int).toNat ≤ 35184372088832
      · rw [if_pos c6] at H
        have c6b0 := eq_true c6
        have c6b1 : decide ((a1 : Int).toNat ≤ 35184372088832) = true := decide_eq_true c6
        clear c6
        obtain ⟨y108, hy108⟩ : ∃ y_ : List Int, y_ = (List.replicate (a1 : Int).toNat 0) := ⟨_, rfl⟩
        replace H : (spec_deArrivals.l0 k a0 a1 l2 y108 (y108.length : Int) 0) = some (r1, r2) := by first | (rw [hy108]; with_reducible exact H) | (have H2_ := (Option.bind_some _ _).symm.trans H; rw [hy108]; with_reducible exact H2_) | (have H2_ := (Option.bind_some _ _).symm.trans H; with_reducible exact H2_) | with_reducible exact H | (rw [hy108]; exact H) | exact H
        have Ny108 := Aside0.mk hy108
        clear hy108
        have H' := Aside0.mk H
        clear H
        go_enter Try.func95, Try.ntmps95
        go_wp2_with (first | ((with_reducible refine gate_dst (N := 20) rfl ?_); refine Kd.R_make (Kd.int .i64) _ 3 rfl (N := 20) rfl 22 _ _ rfl a1 rfl rfl Try.underlying22 (.int .i64 0) 8 info3 rfl (by decide) (by omega) 0 (ok := fun _ => True) (okp := fun _ => True) rfl (fun _ hk => hk) trivial (of_decide_eq_true (by first | (with_reducible assumption) | assumption)) (Nat.le_trans (Nat.mul_le_mul_right _ (of_decide_eq_true (by first | (with_reducible assumption) | assumption) : a1.toNat ≤ 35184372088832)) (by omega)) (Below.refl _ _) (Nat.le_refl _) ?_; intro v109 w7 ho8 hb hg_ hnew_; clear hg_ hnew_; (first | rw [← Ny108.out] at ho8 | (simp only [Int.reduceToNat] at ho8; rw [← Ny108.out] at ho8)); have n0_ := Aside0.mk (Kd.R_lower ho8 (below_size (by repeat (first | (with_reducible first | exact HB.out | apply below_alloc | apply pw_below_drewN | apply below_drew1) | exact HB.out)))); have n1_ := Aside0.mk (below_step (by repeat (first | (with_reducible first | exact HB.out | apply below_alloc | apply pw_below_drewN | apply below_drew1) | exact HB.out)) hb); clear HB; have HO110 := n0_; have HB := n1_; clear n0_ n1_; clear hb ho8; obtain ⟨Ao9, co9, eo9⟩ := Kd.R_slice HO110.out; subst eo9))
        repeat (go_quiet (first | ((with_reducible refine gate_dst (N := 20) rfl ?_); refine Kd.R_make (Kd.int .i64) _ 3 rfl (N := 20) rfl 22 _ _ rfl a1 rfl rfl Try.underlying22 (.int .i64 0) 8 info3 rfl (by decide) (by omega) 0 (ok := fun _ => True) (okp := fun _ => True) rfl (fun _ hk => hk) trivial (of_decide_eq_true (by first | (with_reducible assumption) | assumption)) (Nat.le_trans (Nat.mul_le_mul_right _ (of_decide_eq_true (by first | (with_reducible assumption) | assumption) : a1.toNat ≤ 35184372088832)) (by omega)) (Below.refl _ _) (Nat.le_refl _) ?_; intro v109 w7 ho8 hb hg_ hnew_; clear hg_ hnew_; (first | rw [← Ny108.out] at ho8 | (simp only [Int.reduceToNat] at ho8; rw [← Ny108.out] at ho8)); have n0_ := Aside0.mk (Kd.R_lower ho8 (below_size (by repeat (first | (with_reducible first | exact HB.out | apply below_alloc | apply pw_below_drewN | apply below_drew1) | exact HB.out)))); have n1_ := Aside0.mk (below_step (by repeat (first | (with_reducible first | exact HB.out | apply below_alloc | apply pw_below_drewN | apply below_drew1) | exact HB.out)) hb); clear HB; have HO110 := n0_; have HB := n1_; clear n0_ n1_; clear hb ho8; obtain ⟨Ao9, co9, eo9⟩ := Kd.R_slice HO110.out; subst eo9)); try go_wp2_with (first | ((with_reducible refine gate_dst (N := 20) rfl ?_); refine Kd.R_make (Kd.int .i64) _ 3 rfl (N := 20) rfl 22 _ _ rfl a1 rfl rfl Try.underlying22 (.int .i64 0) 8 info3 rfl (by decide) (by omega) 0 (ok := fun _ => True) (okp := fun _ => True) rfl (fun _ hk => hk) trivial (of_decide_eq_true (by first | (with_reducible assumption) | assumption)) (Nat.le_trans (Nat.mul_le_mul_right _ (of_decide_eq_true (by first | (with_reducible assumption) | assumption) : a1.toNat ≤ 35184372088832)) (by omega)) (Below.refl _ _) (Nat.le_refl _) ?_; intro v109 w7 ho8 hb hg_ hnew_; clear hg_ hnew_; (first | rw [← Ny108.out] at ho8 | (simp only [Int.reduceToNat] at ho8; rw [← Ny108.out] at ho8)); have n0_ := Aside0.mk (Kd.R_lower ho8 (below_size (by repeat (first | (with_reducible first | exact HB.out | apply below_alloc | apply pw_below_drewN | apply below_drew1) | exact HB.out)))); have n1_ := Aside0.mk (below_step (by repeat (first | (with_reducible first | exact HB.out | apply below_alloc | apply pw_below_drewN | apply below_drew1) | exact HB.out)) hb); clear HB; have HO110 := n0_; have HB := n1_; clear n0_ n1_; clear hb ho8; obtain ⟨Ao9, co9, eo9⟩ := Kd.R_slice HO110.out; subst eo9)))
        go_loopg [23] k (fun kq v23 w' => ∃ (x8_1 : List Int) (x23_1 : Int), v23 = .int .i64 x23_1 ∧ Aside0 (spec_deArrivals.l0 kq a0 a1 l2 x8_1 (y108.length : Int) x23_1 = some (r1, r2)) ∧ Aside0 (kq ≤ k) ∧ Aside0 (Kd.R (Kd.int .i64) 3 w' w.heap.size (fun _ => True) (.slice Ao9 y108.length co9) x8_1) ∧ Aside0 (Below w.heap.size w w'))
        case atStart => exact ⟨(y108), (0), (by first | rfl | (simp; done) | (simp [*]; done)), H', ⟨Nat.le_refl _⟩, ⟨by (with_reducible repeat (first | apply Kd.R_alloc | apply Kd.R_drewN | apply Kd.R_drew)); exact HO110.out⟩, ⟨by repeat (first | (with_reducible first | exact HB.out | apply below_alloc | apply pw_below_drewN | apply below_drew1) | exact HB.out)⟩⟩
        case round =>
          clear H'
          try clear c2
          try clear p2
          try clear c4
          try clear c4b0
          try clear c4b1
          try clear c5
          try clear c5b0
          try clear c5b1
          try clear c6
          try clear c6b0
          try clear c6b1
          try clear c9
          obtain ⟨x8_1, x23_1, rfl, HA, HK1, HO_8, HB⟩ := hrel
          have hl8_1 := (Kd.R_reads' HO_8.out).1
          rw [hl8_1] at HO_8
          (try simp only [hl8_1])
          cases gk with
          | zero => exact absurd HA.out (by simp [spec_deArrivals.l0])
          | succ k1 =>
            have H := HA.out
            clear HA
            simp only [spec_deArrivals.l0] at H
            by_cases c10 : x23_1 < (y108.length : Int)
            · rw [if_pos c10] at H
              have c10b0 : decide (x23_1 < (y108.length : Int)) = true := decide_eq_true c10
              (try (have c10b0h := c10b0; simp only [hl8_1] at c10b0h))
              clear c10
              by_cases c11 : 0 ≤ x23_1
              · rw [if_pos c11] at H
                have c11b0 : decide (0 ≤ x23_1) = true := decide_eq_true c11
                (try (have c11b0h := c11b0; simp only [hl8_1] at c11b0h))
                clear c11
                by_cases c12 : x23_1 < (x8_1.length : Int)
                · rw [if_pos c12] at H
                  have c12b0 : decide (x23_1 < (x8_1.length : Int)) = true := decide_eq_true c12
                  (try (have c12b0h := c12b0; simp only [hl8_1] at c12b0h))
                  clear c12
                  obtain ⟨y111, hy111⟩ : ∃ y_ : List Int, y_ = (x8_1.set (x23_1 : Int).toNat (-1)) := ⟨_, rfl⟩
                  replace H : (spec_deArrivals.l0 k1 a0 a1 l2 y111 (y108.length : Int) (wrap64 (x23_1 + 1))) = some (r1, r2) := by first | (rw [hy111]; with_reducible exact H) | (have H2_ := (Option.bind_some _ _).symm.trans H; rw [hy111]; with_reducible exact H2_) | (have H2_ := (Option.bind_some _ _).symm.trans H; with_reducible exact H2_) | with_reducible exact H | (rw [hy111]; exact H) | exact H
                  have Ny111 := Aside0.mk hy111
                  clear hy111
                  have H' := Aside0.mk H
                  clear H
                  have p13 : 0 ≤ (x23_1 : Int) := of_decide_eq_true (by first | (with_reducible assumption) | assumption)
                  have q13 : (x23_1 : Int) < ((x8_1.length : Int) : Int) := of_decide_eq_true (by first | (with_reducible assumption) | assumption)
                  obtain ⟨go13, co13, eo13, gb13, gl13, cl13, HG13⟩ := Kd.R_form HO_8.out (by omega)
                  (first | cases eo13 | (injection eo13 with ea_ en_ ec_; (first | subst ea_ | (injection ea_ with ea_; subst ea_)); subst ec_; clear en_))
                  have GB13 := Aside0.mk gb13
                  have GG13 := Aside0.mk HG13
                  clear gb13 gl13 HG13
                  obtain ⟨hx13_0, hf13_0⟩ := Kd.R_celln 0 HO_8.out (x23_1 : Int) p13 q13
                  replace p13 := eq_true p13
                  replace q13 := eq_true q13
                  have HP14 := Kd.R_putg HO_8.out (x23_1 : Int) (-1)
                  go_wp2_with (first | ((with_reducible refine gate_store (t := 3) (p := 28) rfl ?_); (try (rw [drewN_self wr]; generalize hq_ : World.drewN wr _ = wr; have n0_ := Aside0.mk (Kd.R_at hq_ HO_8.out); have n1_ := Aside0.mk (below_at hq_ HB.out); clear hq_ HO_8 HB; have HO_8 := n0_; have HB := n1_; clear n0_ n1_; (try (have HP14 := Kd.R_putg HO_8.out (x23_1 : Int) (-1))))); refine store_event (t := 3) (p := 28) (v := ?vo_w15) (w1 := (wr.setCell ⟨go13, (x23_1 : Int).toNat, none⟩ (.int .i64 (-1)))) ?hg ?ho ?hn ?hr ?_; (case ho => rfl); (case hg => rfl); (case hn => rfl); (case hr => first | (go_simp; done) | (go_simp; rfl)); intro w15 hw; have hg : wr.grownBy w15 (some go13) := (by rw [hw]; exact HP14.2); have hp_ : Kd.R (Kd.int .i64) 3 w15 w.heap.size (fun _ => True) (.slice (some ⟨go13, 0, none⟩) x8_1.length co9) y111 := (by rw [hw, Ny111.out]; exact HP14.1); clear HP14; have n0_ := Aside0.mk (hp_); have n1_ := Aside0.mk ((by rw [hw]; exact below_set (HB.out) GB13.out : Below w.heap.size w w15)); clear HO_8; clear HB; have HO_8 := n0_; have HB := n1_; clear n0_ n1_; clear hg hw hp_))
                  repeat (go_quiet (first | ((with_reducible refine gate_store (t := 3) (p := 28) rfl ?_); (try (rw [drewN_self wr]; generalize hq_ : World.drewN wr _ = wr; have n0_ := Aside0.mk (Kd.R_at hq_ HO_8.out); have n1_ := Aside0.mk (below_at hq_ HB.out); clear hq_ HO_8 HB; have HO_8 := n0_; have HB := n1_; clear n0_ n1_; (try (have HP14 := Kd.R_putg HO_8.out (x23_1 : Int) (-1))))); refine store_event (t := 3) (p := 28) (v := ?vo_w15) (w1 := (wr.setCell ⟨go13, (x23_1 : Int).toNat, none⟩ (.int .i64 (-1)))) ?hg ?ho ?hn ?hr ?_; (case ho => rfl); (case hg => rfl); (case hn => rfl); (case hr => first | (go_simp; done) | (go_simp; rfl)); intro w15 hw; have hg : wr.grownBy w15 (some go13) := (by rw [hw]; exact HP14.2); have hp_ : Kd.R (Kd.int .i64) 3 w15 w.heap.size (fun _ => True) (.slice (some ⟨go13, 0, none⟩) x8_1.length co9) y111 := (by rw [hw, Ny111.out]; exact HP14.1); clear HP14; have n0_ := Aside0.mk (hp_); have n1_ := Aside0.mk ((by rw [hw]; exact below_set (HB.out) GB13.out : Below w.heap.size w w15)); clear HO_8; clear HB; have HO_8 := n0_; have HB := n1_; clear n0_ n1_; clear hg hw hp_)); try go_wp2_with (first | ((with_reducible refine gate_store (t := 3) (p := 28) rfl ?_); (try (rw [drewN_self wr]; generalize hq_ : World.drewN wr _ = wr; have n0_ := Aside0.mk (Kd.R_at hq_ HO_8.out); have n1_ := Aside0.mk (below_at hq_ HB.out); clear hq_ HO_8 HB; have HO_8 := n0_; have HB := n1_; clear n0_ n1_; (try (have HP14 := Kd.R_putg HO_8.out (x23_1 : Int) (-1))))); refine store_event (t := 3) (p := 28) (v := ?vo_w15) (w1 := (wr.setCell ⟨go13, (x23_1 : Int).toNat, none⟩ (.int .i64 (-1)))) ?hg ?ho ?hn ?hr ?_; (case ho => rfl); (case hg => rfl); (case hn => rfl); (case hr => first | (go_simp; done) | (go_simp; rfl)); intro w15 hw; have hg : wr.grownBy w15 (some go13) := (by rw [hw]; exact HP14.2); have hp_ : Kd.R (Kd.int .i64) 3 w15 w.heap.size (fun _ => True) (.slice (some ⟨go13, 0, none⟩) x8_1.length co9) y111 := (by rw [hw, Ny111.out]; exact HP14.1); clear HP14; have n0_ := Aside0.mk (hp_); have n1_ := Aside0.mk ((by rw [hw]; exact below_set (HB.out) GB13.out : Below w.heap.size w w15)); clear HO_8; clear HB; have HO_8 := n0_; have HB := n1_; clear n0_ n1_; clear hg hw hp_)))
                  (try simp only [← hl8_1])
                  go_roundg k1
                  case measure => have := HK1.out; omega
                  case rel => exact ⟨(y111), (wrap64 (x23_1 + 1)), (by first | rfl | (simp; done) | (simp [*]; done)), H', ⟨by have := HK1.out; omega⟩, ⟨by (try simp only [hl8_1]); (with_reducible repeat (first | apply Kd.R_alloc | apply Kd.R_drewN | apply Kd.R_drew)); exact HO_8.out⟩, ⟨by repeat (first | (with_reducible first | exact HB.out | apply below_alloc | apply pw_below_drewN | apply below_drew1) | exact HB.out)⟩⟩
                · rw [if_neg c12] at H
                  exact absurd H (by simp)
              · rw [if_neg c11] at H
                exact absurd H (by simp)
            · rw [if_neg c10] at H
              have c10b0 : decide (x23_1 < (y108.length : Int)) = false := decide_eq_false c10
              (try (have c10b0h := c10b0; simp only [hl8_1] at c10b0h))
              clear c10
              by_cases c16 : 0 < (x8_1.length : Int)
              · rw [if_pos c16] at H
                have c16b0 : decide (0 < (x8_1.length : Int)) = true := decide_eq_true c16
                (try (have c16b0h := c16b0; simp only [hl8_1] at c16b0h))
                have c16b1 : decide (0 < x8_1.length) = true := decide_eq_true (by omega)
                (try (have c16b1h := c16b1; simp only [hl8_1] at c16b1h))
                clear c16
                obtain ⟨y112, hy112⟩ : ∃ y_ : List Int, y_ = (x8_1.set (0 : Int).toNat 0) := ⟨_, rfl⟩
                replace H : (spec_deArrivals.l1 k1 a0 a1 l2 y112 l2 (l2.length : Int) 0) = some (r1, r2) := by first | (rw [hy112]; with_reducible exact H) | (have H2_ := (Option.bind_some _ _).symm.trans H; rw [hy112]; with_reducible exact H2_) | (have H2_ := (Option.bind_some _ _).symm.trans H; with_reducible exact H2_) | with_reducible exact H | (rw [hy112]; exact H) | exact H
                have Ny112 := Aside0.mk hy112
                clear hy112
                have H' := Aside0.mk H
                clear H
                have p17 : 0 ≤ (0 : Int) := (by omega)
                have q17 : (0 : Int) < ((x8_1.length : Int) : Int) := of_decide_eq_true (by first | (with_reducible assumption) | assumption)
                have qi17 : (0 < x8_1.length) = True := eq_true (by omega)
                obtain ⟨go17, co17, eo17, gb17, gl17, cl17, HG17⟩ := Kd.R_form HO_8.out (by omega)
                (first | cases eo17 | (injection eo17 with ea_ en_ ec_; (first | subst ea_ | (injection ea_ with ea_; subst ea_)); subst ec_; clear en_))
                have GB17 := Aside0.mk gb17
                have GG17 := Aside0.mk HG17
                clear gb17 gl17 HG17
                obtain ⟨hx17_0, hf17_0⟩ := Kd.R_celln 0 HO_8.out (0 : Int) p17 q17
                (try rw [show ((0 : Int)).toNat = 0 from rfl] at hx17_0)
                (try simp only [Nat.reduceMul, Nat.zero_mul, Nat.zero_add, Nat.reduceAdd] at hx17_0)
                (try rw [show ((0 : Int)).toNat = 0 from rfl] at hf17_0)
                (try simp only [Nat.reduceMul, Nat.zero_mul, Nat.zero_add, Nat.reduceAdd] at hf17_0)
                replace p17 := eq_true p17
                replace q17 := eq_true q17
                have HP18 := Kd.R_putg HO_8.out (0 : Int) 0
                go_wp2_with (first | ((with_reducible refine gate_store (t := 3) (p := 31) rfl ?_); (try (rw [drewN_self wr]; generalize hq_ : World.drewN wr _ = wr; have n0_ := Aside0.mk (Kd.R_at hq_ HO_8.out); have n1_ := Aside0.mk (below_at hq_ HB.out); clear hq_ HO_8 HB; have HO_8 := n0_; have HB := n1_; clear n0_ n1_; (try (have HP18 := Kd.R_putg HO_8.out (0 : Int) 0)))); refine store_event (t := 3) (p := 31) (v := ?vo_w19) (w1 := (wr.setCell ⟨go17, (0 : Int).toNat, none⟩ (.int .i64 0))) ?hg ?ho ?hn ?hr ?_; (case ho => rfl); (case hg => rfl); (case hn => rfl); (case hr => first | (go_simp; done) | (go_simp; rfl)); intro w19 hw; have hg : wr.grownBy w19 (some go17) := (by rw [hw]; exact HP18.2); have hp_ : Kd.R (Kd.int .i64) 3 w19 w.heap.size (fun _ => True) (.slice (some ⟨go17, 0, none⟩) x8_1.length co9) y112 := (by rw [hw, Ny112.out]; exact HP18.1); clear HP18; have n0_ := Aside0.mk (hp_); have n1_ := Aside0.mk ((by rw [hw]; exact below_set (HB.out) GB17.out : Below w.heap.size w w19)); clear HO_8; clear HB; have HO_8 := n0_; have HB := n1_; clear n0_ n1_; clear hg hw hp_))
                repeat (go_quiet (first | ((with_reducible refine gate_store (t := 3) (p := 31) rfl ?_); (try (rw [drewN_self wr]; generalize hq_ : World.drewN wr _ = wr; have n0_ := Aside0.mk (Kd.R_at hq_ HO_8.out); have n1_ := Aside0.mk (below_at hq_ HB.out); clear hq_ HO_8 HB; have HO_8 := n0_; have HB := n1_; clear n0_ n1_; (try (have HP18 := Kd.R_putg HO_8.out (0 : Int) 0)))); refine store_event (t := 3) (p := 31) (v := ?vo_w19) (w1 := (wr.setCell ⟨go17, (0 : Int).toNat, none⟩ (.int .i64 0))) ?hg ?ho ?hn ?hr ?_; (case ho => rfl); (case hg => rfl); (case hn => rfl); (case hr => first | (go_simp; done) | (go_simp; rfl)); intro w19 hw; have hg : wr.grownBy w19 (some go17) := (by rw [hw]; exact HP18.2); have hp_ : Kd.R (Kd.int .i64) 3 w19 w.heap.size (fun _ => True) (.slice (some ⟨go17, 0, none⟩) x8_1.length co9) y112 := (by rw [hw, Ny112.out]; exact HP18.1); clear HP18; have n0_ := Aside0.mk (hp_); have n1_ := Aside0.mk ((by rw [hw]; exact below_set (HB.out) GB17.out : Below w.heap.size w w19)); clear HO_8; clear HB; have HO_8 := n0_; have HB := n1_; clear n0_ n1_; clear hg hw hp_)); try go_wp2_with (first | ((with_reducible refine gate_store (t := 3) (p := 31) rfl ?_); (try (rw [drewN_self wr]; generalize hq_ : World.drewN wr _ = wr; have n0_ := Aside0.mk (Kd.R_at hq_ HO_8.out); have n1_ := Aside0.mk (below_at hq_ HB.out); clear hq_ HO_8 HB; have HO_8 := n0_; have HB := n1_; clear n0_ n1_; (try (have HP18 := Kd.R_putg HO_8.out (0 : Int) 0)))); refine store_event (t := 3) (p := 31) (v := ?vo_w19) (w1 := (wr.setCell ⟨go17, (0 : Int).toNat, none⟩ (.int .i64 0))) ?hg ?ho ?hn ?hr ?_; (case ho => rfl); (case hg => rfl); (case hn => rfl); (case hr => first | (go_simp; done) | (go_simp; rfl)); intro w19 hw; have hg : wr.grownBy w19 (some go17) := (by rw [hw]; exact HP18.2); have hp_ : Kd.R (Kd.int .i64) 3 w19 w.heap.size (fun _ => True) (.slice (some ⟨go17, 0, none⟩) x8_1.length co9) y112 := (by rw [hw, Ny112.out]; exact HP18.1); clear HP18; have n0_ := Aside0.mk (hp_); have n1_ := Aside0.mk ((by rw [hw]; exact below_set (HB.out) GB17.out : Below w.heap.size w w19)); clear HO_8; clear HB; have HO_8 := n0_; have HB := n1_; clear n0_ n1_; clear hg hw hp_)))
                go_loopg [34] k1 (fun kq v34 w' => ∃ (x8_2 : List Int) (x34_2 : Int), v34 = .int .i64 x34_2 ∧ Aside0 (spec_deArrivals.l1 kq a0 a1 l2 x8_2 l2 (l2.length : Int) x34_2 = some (r1, r2)) ∧ Aside0 (kq ≤ k1) ∧ Aside0 (Kd.R (Kd.int .i64) 3 w' w.heap.size (fun _ => True) (.slice (some ⟨go17, 0, none⟩) x8_1.length co9) x8_2) ∧ Aside0 (Below w.heap.size w w'))
                case atStart => exact ⟨(y112), (0), (by first | rfl | (simp; done) | (simp [*]; done)), H', ⟨Nat.le_refl _⟩, ⟨by (try simp only [hl8_1]); (with_reducible repeat (first | apply Kd.R_alloc | apply Kd.R_drewN | apply Kd.R_drew)); exact HO_8.out⟩, ⟨by repeat (first | (with_reducible first | exact HB.out | apply below_alloc | apply pw_below_drewN | apply below_drew1) | exact HB.out)⟩⟩
                case round =>
                  clear H'
                  try clear c1
                  try clear p1
                  try clear q1
                  try clear hx1
                  try clear qi1
                  try clear c2
                  try clear p2
                  try clear c4
                  try clear c4b0
                  try clear c4b1
                  try clear c5
                  try clear c5b0
                  try clear c5b1
                  try clear c6
                  try clear c6b0
                  try clear c6b1
                  try clear p6
                  try clear c9
                  try clear c10
                  try clear c10b0
                  try clear c11
                  try clear c11b0
                  try clear c12
                  try clear c12b0
                  try clear p13
                  try clear q13
                  try clear hx13
                  try clear hf13
                  try clear c16
                  try clear c16b0
                  try clear c16b1
                  try clear p17
                  try clear q17
                  try clear hx17
                  try clear qi17
                  try clear hf17
                  try clear hx13_0
                  try clear hx17_0
                  try clear p13
                  try clear p17
                  try clear p2
                  try clear q13
                  try clear q17
                  obtain ⟨x8_2, x34_2, rfl, HA, HK2, HO_8, HB⟩ := hrel
                  have hl8_2 := (Kd.R_reads' HO_8.out).1
                  rw [hl8_2] at HO_8
                  (try simp only [hl8_2])
                  cases gk with
                  | zero => exact absurd HA.out (by simp [spec_deArrivals.l1])
                  | succ k2 =>
                    have H := HA.out
                    clear HA
                    simp only [spec_deArrivals.l1] at H
                    by_cases c20 : x34_2 < (l2.length : Int)
                    · rw [if_pos c20] at H
                      have c20b0 : decide (x34_2 < (l2.length : Int)) = true := decide_eq_true c20
                      (try (have c20b0h := c20b0; simp only [hl8_1, hl8_2] at c20b0h))
                      clear c20
                      by_cases c21 : 0 ≤ x34_2
                      · rw [if_pos c21] at H
                        have c21b0 : decide (0 ≤ x34_2) = true := decide_eq_true c21
                        (try (have c21b0h := c21b0; simp only [hl8_1, hl8_2] at c21b0h))
                        clear c21
                        by_cases c22 : x34_2 < (l2.length : Int)
                        · rw [if_pos c22] at H
                          have c22b0 : decide (x34_2 < (l2.length : Int)) = true := decide_eq_true c22
                          (try (have c22b0h := c22b0; simp only [hl8_1, hl8_2] at c22b0h))
                          clear c22
                          have HC23 := Aside0.mk H
                          clear H
                          have p113 : 0 ≤ (x34_2 : Int) := of_decide_eq_true (by first | (with_reducible assumption) | assumption)
                          have q113 : x34_2 < (l2.length : Int) := of_decide_eq_true (by first | (with_reducible assumption) | assumption)
                          obtain ⟨ad113, e113, hx113_0, hx113_1, hx113_2⟩ := at_T67 HR2.out x34_2 p113 q113
                          cases e113
                          replace hx113_0 := (HB.out.cell (World.block_lt_of_cell? w _ hx113_0)).trans hx113_0
                          replace hx113_1 := (HB.out.cell (World.block_lt_of_cell? w _ hx113_1)).trans hx113_1
                          replace hx113_2 := (HB.out.cell (World.block_lt_of_cell? w _ hx113_2)).trans hx113_2
                          replace p113 := eq_true p113
                          replace q113 := eq_true q113
                          go_upto_region 13 with (first | ((with_reducible refine gate_dst (N := 11) rfl ?_); refine box_event ?hg (N := 11) ?hd (cs := #[.int .i64 0, .int .i64 0, .int .i64 0]) (t := 67) ?hr ?_; (case hd => rfl); (case hg => rfl); (case hr => first | (go_simp; done) | (go_simp; rfl)); intro gb114 hg w24 hbox hb; have n0_ := Aside0.mk (Kd.R_below (by (with_reducible repeat (first | apply Kd.R_alloc | apply Kd.R_drewN | apply Kd.R_drew)); exact HO_8.out) hb); have n1_ := Aside0.mk (below_step (by repeat (first | (with_reducible first | exact HB.out | apply below_alloc | apply pw_below_drewN | apply below_drew1) | exact HB.out)) hb); have n2_ := Aside0.mk (hbox); have n3_ := Aside0.mk ((by rw [hg]; exact (below_size (by repeat (first | (with_reducible first | exact HB.out | apply below_alloc | apply pw_below_drewN | apply below_drew1) | exact HB.out))) : w.heap.size ≤ gb114)); have n4_ := Aside0.mk ((by rw [hg]; exact (below_size (by repeat (first | (with_reducible first | exact HB.out | apply below_alloc | apply pw_below_drewN | apply below_drew1) | exact HB.out))) : w.heap.size ≤ gb114)); clear HO_8; clear HB; have HO_8 := n0_; have HB := n1_; have BK114 := n2_; have GW114 := n3_; have GE114 := n4_; clear n0_ n1_ n2_ n3_ n4_; clear hb hbox hg; have hcz25_0 : w24.cell? ⟨gb114, 0, none⟩ = some (.int .i64 0) := (blk_cell BK114.out 0).trans rfl; have hcz25_1 : w24.cell? ⟨gb114, 1, none⟩ = some (.int .i64 0) := (blk_cell BK114.out 1).trans rfl; have hcz25_2 : w24.cell? ⟨gb114, 2, none⟩ = some (.int .i64 0) := (blk_cell BK114.out 2).trans rfl; have hfz25_0 := blk_frozen BK114.out 0; have hfz25_1 := blk_frozen BK114.out 1; have hfz25_2 := blk_frozen BK114.out 2))
                          repeat (go_quiet (first | ((with_reducible refine gate_dst (N := 11) rfl ?_); refine box_event ?hg (N := 11) ?hd (cs := #[.int .i64 0, .int .i64 0, .int .i64 0]) (t := 67) ?hr ?_; (case hd => rfl); (case hg => rfl); (case hr => first | (go_simp; done) | (go_simp; rfl)); intro gb114 hg w24 hbox hb; have n0_ := Aside0.mk (Kd.R_below (by (with_reducible repeat (first | apply Kd.R_alloc | apply Kd.R_drewN | apply Kd.R_drew)); exact HO_8.out) hb); have n1_ := Aside0.mk (below_step (by repeat (first | (with_reducible first | exact HB.out | apply below_alloc | apply pw_below_drewN | apply below_drew1) | exact HB.out)) hb); have n2_ := Aside0.mk (hbox); have n3_ := Aside0.mk ((by rw [hg]; exact (below_size (by repeat (first | (with_reducible first | exact HB.out | apply below_alloc | apply pw_below_drewN | apply below_drew1) | exact HB.out))) : w.heap.size ≤ gb114)); have n4_ := Aside0.mk ((by rw [hg]; exact (below_size (by repeat (first | (with_reducible first | exact HB.out | apply below_alloc | apply pw_below_drewN | apply below_drew1) | exact HB.out))) : w.heap.size ≤ gb114)); clear HO_8; clear HB; have HO_8 := n0_; have HB := n1_; have BK114 := n2_; have GW114 := n3_; have GE114 := n4_; clear n0_ n1_ n2_ n3_ n4_; clear hb hbox hg; have hcz25_0 : w24.cell? ⟨gb114, 0, none⟩ = some (.int .i64 0) := (blk_cell BK114.out 0).trans rfl; have hcz25_1 : w24.cell? ⟨gb114, 1, none⟩ = some (.int .i64 0) := (blk_cell BK114.out 1).trans rfl; have hcz25_2 : w24.cell? ⟨gb114, 2, none⟩ = some (.int .i64 0) := (blk_cell BK114.out 2).trans rfl; have hfz25_0 := blk_frozen BK114.out 0; have hfz25_1 := blk_frozen BK114.out 1; have hfz25_2 := blk_frozen BK114.out 2)); go_upto_region 13 with (first | ((with_reducible refine gate_dst (N := 11) rfl ?_); refine box_event ?hg (N := 11) ?hd (cs := #[.int .i64 0, .int .i64 0, .int .i64 0]) (t := 67) ?hr ?_; (case hd => rfl); (case hg => rfl); (case hr => first | (go_simp; done) | (go_simp; rfl)); intro gb114 hg w24 hbox hb; have n0_ := Aside0.mk (Kd.R_below (by (with_reducible repeat (first | apply Kd.R_alloc | apply Kd.R_drewN | apply Kd.R_drew)); exact HO_8.out) hb); have n1_ := Aside0.mk (below_step (by repeat (first | (with_reducible first | exact HB.out | apply below_alloc | apply pw_below_drewN | apply below_drew1) | exact HB.out)) hb); have n2_ := Aside0.mk (hbox); have n3_ := Aside0.mk ((by rw [hg]; exact (below_size (by repeat (first | (with_reducible first | exact HB.out | apply below_alloc | apply pw_below_drewN | apply below_drew1) | exact HB.out))) : w.heap.size ≤ gb114)); have n4_ := Aside0.mk ((by rw [hg]; exact (below_size (by repeat (first | (with_reducible first | exact HB.out | apply below_alloc | apply pw_below_drewN | apply below_drew1) | exact HB.out))) : w.heap.size ≤ gb114)); clear HO_8; clear HB; have HO_8 := n0_; have HB := n1_; have BK114 := n2_; have GW114 := n3_; have GE114 := n4_; clear n0_ n1_ n2_ n3_ n4_; clear hb hbox hg; have hcz25_0 : w24.cell? ⟨gb114, 0, none⟩ = some (.int .i64 0) := (blk_cell BK114.out 0).trans rfl; have hcz25_1 : w24.cell? ⟨gb114, 1, none⟩ = some (.int .i64 0) := (blk_cell BK114.out 1).trans rfl; have hcz25_2 : w24.cell? ⟨gb114, 2, none⟩ = some (.int .i64 0) := (blk_cell BK114.out 2).trans rfl; have hfz25_0 := blk_frozen BK114.out 0; have hfz25_1 := blk_frozen BK114.out 1; have hfz25_2 := blk_frozen BK114.out 2)))
                          (try simp only [Act.put, List.setIfInBounds_toArray, List.set_cons_zero, List.set_cons_succ])
                          go_cut [73] (fun v73 wc => ∃ (kq : Nat) (x73_22 : Bool), v73 = .bool x73_22 ∧ Aside0 (spec_deArrivals.j2 kq a0 a1 l2 x8_2 x34_2 l2 (l2.length : Int) x34_2 x73_22 ((rd_T67 l2 x34_2).f0) ((rd_T67 l2 x34_2).f1) ((rd_T67 l2 x34_2).f2) = some (r1, r2)) ∧ Aside0 (kq ≤ k2) ∧ Aside0 (Kd.R (Kd.int .i64) 3 wc w.heap.size (fun _ => True) (.slice (some ⟨go17, 0, none⟩) x8_2.length co9) x8_2) ∧ Aside0 (wc.heap[gb114]? = some (.cells #[.int .i64 ((rd_T67 l2 x34_2).f0), .int .i64 ((rd_T67 l2 x34_2).f1), .int .i64 ((rd_T67 l2 x34_2).f2)] 67 (0, 0))) ∧ Aside0 (Below w.heap.size w wc))
                          case first =>
                            have H := HC23.out
                            clear HC23
                            replace H := Option.bind_eq_some_iff.mp H
                            obtain ⟨t115, A260, H⟩ := H
                            replace H : (if t115 = true then ((spec_l1In.f ((rd_T67 l2 x34_2).f1) 1 (wrap64 (a1 - 1))).bind fun t116 => (if t116 = true then (if ((rd_T67 l2 x34_2).f0) = ((rd_T67 l2 x34_2).f1) then (spec_deArrivals.j2 k2 a0 a1 l2 x8_2 x34_2 l2 (l2.length : Int) x34_2 true ((rd_T67 l2 x34_2).f0) ((rd_T67 l2 x34_2).f1) ((rd_T67 l2 x34_2).f2)) else ((spec_l1In.f ((rd_T67 l2 x34_2).f2) 0 60).bind fun t117 => (if t117 = true then (if 0 ≤ ((rd_T67 l2 x34_2).f1) then (if ((rd_T67 l2 x34_2).f1) < (x8_2.length : Int) then (spec_deArrivals.j2 k2 a0 a1 l2 x8_2 x34_2 l2 (l2.length : Int) x34_2 (decide ((rd x8_2 ((rd_T67 l2 x34_2).f1)) ≥ 0)) ((rd_T67 l2 x34_2).f0) ((rd_T67 l2 x34_2).f1) ((rd_T67 l2 x34_2).f2)) else (none)) else (none)) else (spec_deArrivals.j2 k2 a0 a1 l2 x8_2 x34_2 l2 (l2.length : Int) x34_2 true ((rd_T67 l2 x34_2).f0) ((rd_T67 l2 x34_2).f1) ((rd_T67 l2 x34_2).f2))))) else (spec_deArrivals.j2 k2 a0 a1 l2 x8_2 x34_2 l2 (l2.length : Int) x34_2 true ((rd_T67 l2 x34_2).f0) ((rd_T67 l2 x34_2).f1) ((rd_T67 l2 x34_2).f2)))) else (spec_deArrivals.j2 k2 a0 a1 l2 x8_2 x34_2 l2 (l2.length : Int) x34_2 true ((rd_T67 l2 x34_2).f0) ((rd_T67 l2 x34_2).f1) ((rd_T67 l2 x34_2).f2))) = some (r1, r2) := H
                            have A26 := Aside0.mk A260
                            clear A260
                            by_cases c27 : t115 = true
                            · subst c27
                              have H1 : ((spec_l1In.f ((rd_T67 l2 x34_2).f1) 1 (wrap64 (a1 - 1))).bind fun t116 => (if t116 = true then (if ((rd_T67 l2 x34_2).f0) = ((rd_T67 l2 x34_2).f1) then (spec_deArrivals.j2 k2 a0 a1 l2 x8_2 x34_2 l2 (l2.length : Int) x34_2 true ((rd_T67 l2 x34_2).f0) ((rd_T67 l2 x34_2).f1) ((rd_T67 l2 x34_2).f2)) else ((spec_l1In.f ((rd_T67 l2 x34_2).f2) 0 60).bind fun t117 => (if t117 = true then (if 0 ≤ ((rd_T67 l2 x34_2).f1) then (if ((rd_T67 l2 x34_2).f1) < (x8_2.length : Int) then (spec_deArrivals.j2 k2 a0 a1 l2 x8_2 x34_2 l2 (l2.length : Int) x34_2 (decide ((rd x8_2 ((rd_T67 l2 x34_2).f1)) ≥ 0)) ((rd_T67 l2 x34_2).f0) ((rd_T67 l2 x34_2).f1) ((rd_T67 l2 x34_2).f2)) else (none)) else (none)) else (spec_deArrivals.j2 k2 a0 a1 l2 x8_2 x34_2 l2 (l2.length : Int) x34_2 true ((rd_T67 l2 x34_2).f0) ((rd_T67 l2 x34_2).f1) ((rd_T67 l2 x34_2).f2))))) else (spec_deArrivals.j2 k2 a0 a1 l2 x8_2 x34_2 l2 (l2.length : Int) x34_2 true ((rd_T67 l2 x34_2).f0) ((rd_T67 l2 x34_2).f1) ((rd_T67 l2 x34_2).f2)))) = some (r1, r2) := by rw [if_pos rfl] at H; exact H
                              clear H
                              have H := H1
                              clear H1
                              replace H := Option.bind_eq_some_iff.mp H
                              obtain ⟨t116, A280, H⟩ := H
                              replace H : (if t116 = true then (if ((rd_T67 l2 x34_2).f0) = ((rd_T67 l2 x34_2).f1) then (spec_deArrivals.j2 k2 a0 a1 l2 x8_2 x34_2 l2 (l2.length : Int) x34_2 true ((rd_T67 l2 x34_2).f0) ((rd_T67 l2 x34_2).f1) ((rd_T67 l2 x34_2).f2)) else ((spec_l1In.f ((rd_T67 l2 x34_2).f2) 0 60).bind fun t117 => (if t117 = true then (if 0 ≤ ((rd_T67 l2 x34_2).f1) then (if ((rd_T67 l2 x34_2).f1) < (x8_2.length : Int) then (spec_deArrivals.j2 k2 a0 a1 l2 x8_2 x34_2 l2 (l2.length : Int) x34_2 (decide ((rd x8_2 ((rd_T67 l2 x34_2).f1)) ≥ 0)) ((rd_T67 l2 x34_2).f0) ((rd_T67 l2 x34_2).f1) ((rd_T67 l2 x34_2).f2)) else (none)) else (none)) else (spec_deArrivals.j2 k2 a0 a1 l2 x8_2 x34_2 l2 (l2.length : Int) x34_2 true ((rd_T67 l2 x34_2).f0) ((rd_T67 l2 x34_2).f1) ((rd_T67 l2 x34_2).f2))))) else (spec_deArrivals.j2 k2 a0 a1 l2 x8_2 x34_2 l2 (l2.length : Int) x34_2 true ((rd_T67 l2 x34_2).f0) ((rd_T67 l2 x34_2).f1) ((rd_T67 l2 x34_2).f2))) = some (r1, r2) := H
                              have A28 := Aside0.mk A280
                              clear A280
                              by_cases c29 : t116 = true
                              · subst c29
                                have H1 : (if ((rd_T67 l2 x34_2).f0) = ((rd_T67 l2 x34_2).f1) then (spec_deArrivals.j2 k2 a0 a1 l2 x8_2 x34_2 l2 (l2.length : Int) x34_2 true ((rd_T67 l2 x34_2).f0) ((rd_T67 l2 x34_2).f1) ((rd_T67 l2 x34_2).f2)) else ((spec_l1In.f ((rd_T67 l2 x34_2).f2) 0 60).bind fun t117 => (if t117 = true then (if 0 ≤ ((rd_T67 l2 x34_2).f1) then (if ((rd_T67 l2 x34_2).f1) < (x8_2.length : Int) then (spec_deArrivals.j2 k2 a0 a1 l2 x8_2 x34_2 l2 (l2.length : Int) x34_2 (decide ((rd x8_2 ((rd_T67 l2 x34_2).f1)) ≥ 0)) ((rd_T67 l2 x34_2).f0) ((rd_T67 l2 x34_2).f1) ((rd_T67 l2 x34_2).f2)) else (none)) else (none)) else (spec_deArrivals.j2 k2 a0 a1 l2 x8_2 x34_2 l2 (l2.length : Int) x34_2 true ((rd_T67 l2 x34_2).f0) ((rd_T67 l2 x34_2).f1) ((rd_T67 l2 x34_2).f2))))) = some (r1, r2) := by rw [if_pos rfl] at H; exact H
                                clear H
                                have H := H1
                                clear H1
                                by_cases c30 : ((rd_T67 l2 x34_2).f0) = ((rd_T67 l2 x34_2).f1)
                                · rw [if_pos c30] at H
                                  have c30b0 : (((rd_T67 l2 x34_2).f0) == ((rd_T67 l2 x34_2).f1)) = true := beq_iff_eq.mpr c30
                                  (try (have c30b0h := c30b0; simp only [hl8_1, hl8_2] at c30b0h))
                                  have c30b1 : (((rd_T67 l2 x34_2).f0) != ((rd_T67 l2 x34_2).f1)) = false := bne_eq_false_iff_eq.mpr c30
                                  (try (have c30b1h := c30b1; simp only [hl8_1, hl8_2] at c30b1h))
                                  clear c30
                                  (first | rw [c30b0] | (simp only [i64_w, i32_w]; rw [c30b0]) |rw [c30b1] | rw [c30b2] | skip)
                                  have H' := Aside0.mk H
                                  clear H
                                  have hcz31_0 : w24.cell? ⟨gb114, 0, none⟩ = some (.int .i64 0) := (blk_cell BK114.out 0).trans rfl
                                  have hcz31_1 : w24.cell? ⟨gb114, 1, none⟩ = some (.int .i64 0) := (blk_cell BK114.out 1).trans rfl
                                  have hcz31_2 : w24.cell? ⟨gb114, 2, none⟩ = some (.int .i64 0) := (blk_cell BK114.out 2).trans rfl
                                  have hfz31_0 := blk_frozen BK114.out 0
                                  have hfz31_1 := blk_frozen BK114.out 1
                                  have hfz31_2 := blk_frozen BK114.out 2
                                  go_wp2_with (first | (go_at_call 61; (with_reducible refine (spec_l1In.calls ((rd_T67 l2 x34_2).f0) 0 (wrap64 (a1 - 1)) true _ A26.out).mono ?_); rintro e w' ⟨rfl, ⟨nd, rfl⟩⟩; (try first | exact ⟨rfl, _, World.drewN_drewN _ _ _⟩ | exact ⟨rfl, _, Eq.trans (World.drewN_drewN _ _ _) (congrArg (World.drewN _) (Nat.add_assoc _ _ _))⟩)) | (go_at_call 61; (with_reducible refine (spec_l1In.calls ((rd_T67 l2 x34_2).f1) 1 (wrap64 (a1 - 1)) true _ A28.out).mono ?_); rintro e w' ⟨rfl, ⟨nd, rfl⟩⟩; (try first | exact ⟨rfl, _, World.drewN_drewN _ _ _⟩ | exact ⟨rfl, _, Eq.trans (World.drewN_drewN _ _ _) (congrArg (World.drewN _) (Nat.add_assoc _ _ _))⟩)))
                                  repeat (go_quiet (first | (go_at_call 61; (with_reducible refine (spec_l1In.calls ((rd_T67 l2 x34_2).f0) 0 (wrap64 (a1 - 1)) true _ A26.out).mono ?_); rintro e w' ⟨rfl, ⟨nd, rfl⟩⟩; (try first | exact ⟨rfl, _, World.drewN_drewN _ _ _⟩ | exact ⟨rfl, _, Eq.trans (World.drewN_drewN _ _ _) (congrArg (World.drewN _) (Nat.add_assoc _ _ _))⟩)) | (go_at_call 61; (with_reducible refine (spec_l1In.calls ((rd_T67 l2 x34_2).f1) 1 (wrap64 (a1 - 1)) true _ A28.out).mono ?_); rintro e w' ⟨rfl, ⟨nd, rfl⟩⟩; (try first | exact ⟨rfl, _, World.drewN_drewN _ _ _⟩ | exact ⟨rfl, _, Eq.trans (World.drewN_drewN _ _ _) (congrArg (World.drewN _) (Nat.add_assoc _ _ _))⟩))); try go_wp2_with (first | (go_at_call 61; (with_reducible refine (spec_l1In.calls ((rd_T67 l2 x34_2).f0) 0 (wrap64 (a1 - 1)) true _ A26.out).mono ?_); rintro e w' ⟨rfl, ⟨nd, rfl⟩⟩; (try first | exact ⟨rfl, _, World.drewN_drewN _ _ _⟩ | exact ⟨rfl, _, Eq.trans (World.drewN_drewN _ _ _) (congrArg (World.drewN _) (Nat.add_assoc _ _ _))⟩)) | (go_at_call 61; (with_reducible refine (spec_l1In.calls ((rd_T67 l2 x34_2).f1) 1 (wrap64 (a1 - 1)) true _ A28.out).mono ?_); rintro e w' ⟨rfl, ⟨nd, rfl⟩⟩; (try first | exact ⟨rfl, _, World.drewN_drewN _ _ _⟩ | exact ⟨rfl, _, Eq.trans (World.drewN_drewN _ _ _) (congrArg (World.drewN _) (Nat.add_assoc _ _ _))⟩))))
                                  go_meet
                                  case rel => exact ⟨_, (true), (by first | rfl | (simp; done) | (simp [*]; done)), H', ⟨by have := HK1.out; have := HK2.out; first | omega | exact Nat.le_refl _⟩, ⟨by (try simp only [hl8_1]); (try simp only [hl8_2]); (with_reducible repeat (first | apply Kd.R_alloc | apply Kd.R_drewN | apply Kd.R_drew)); exact Kd.R_mono (Kd.R_far (p := ⟨gb114, 2, none⟩) (Kd.R_far (p := ⟨gb114, 1, none⟩) (Kd.R_far (p := ⟨gb114, 0, none⟩) (Kd.R_types HO_8.out BK114.out (by decide)) (fun _ hk => hk.2) (.int .i64 ((rd_T67 l2 x34_2).f0))) (fun _ hk => hk.2) (.int .i64 ((rd_T67 l2 x34_2).f1))) (fun _ hk => hk.2) (.int .i64 ((rd_T67 l2 x34_2).f2))) (fun _ hk => trivial)⟩, ⟨by (try simp only [hl8_1]); (try simp only [hl8_2]); (with_reducible repeat (first | refine blk_drewN ?_ _ | refine blk_drew ?_ | refine blk_alloc ?_ _)); refine blk_put (cs := #[.int .i64 ((rd_T67 l2 x34_2).f0), .int .i64 ((rd_T67 l2 x34_2).f1), .int .i64 0]) ?_ 2 _ rfl; (with_reducible repeat (first | refine blk_drewN ?_ _ | refine blk_drew ?_ | refine blk_alloc ?_ _)); refine blk_put (cs := #[.int .i64 ((rd_T67 l2 x34_2).f0), .int .i64 0, .int .i64 0]) ?_ 1 _ rfl; (with_reducible repeat (first | refine blk_drewN ?_ _ | refine blk_drew ?_ | refine blk_alloc ?_ _)); refine blk_put (cs := #[.int .i64 0, .int .i64 0, .int .i64 0]) ?_ 0 _ rfl; (with_reducible repeat (first | refine blk_drewN ?_ _ | refine blk_drew ?_ | refine blk_alloc ?_ _)); exact BK114.out⟩, ⟨by repeat (first | (with_reducible first | exact HB.out | apply below_alloc | apply pw_below_drewN | apply below_drew1 | refine below_set ?_ GE114.out) | exact HB.out)⟩⟩
                                · rw [if_neg c30] at H
                                  have c30b0 : (((rd_T67 l2 x34_2).f0) == ((rd_T67 l2 x34_2).f1)) = false := beq_eq_false_iff_ne.mpr c30
                                  (try (have c30b0h := c30b0; simp only [hl8_1, hl8_2] at c30b0h))
                                  have c30b1 : (((rd_T67 l2 x34_2).f0) != ((rd_T67 l2 x34_2).f1)) = true := bne_iff_ne.mpr c30
                                  (try (have c30b1h := c30b1; simp only [hl8_1, hl8_2] at c30b1h))
                                  (first | rw [c30b0] | (simp only [i64_w, i32_w]; rw [c30b0]) |rw [c30b1] | rw [c30b2] | skip)
                                  replace H := Option.bind_eq_some_iff.mp H
                                  obtain ⟨t117, A320, H⟩ := H
                                  replace H : (if t117 = true then (if 0 ≤ ((rd_T67 l2 x34_2).f1) then (if ((rd_T67 l2 x34_2).f1) < (x8_2.length : Int) then (spec_deArrivals.j2 k2 a0 a1 l2 x8_2 x34_2 l2 (l2.length : Int) x34_2 (decide ((rd x8_2 ((rd_T67 l2 x34_2).f1)) ≥ 0)) ((rd_T67 l2 x34_2).f0) ((rd_T67 l2 x34_2).f1) ((rd_T67 l2 x34_2).f2)) else (none)) else (none)) else (spec_deArrivals.j2 k2 a0 a1 l2 x8_2 x34_2 l2 (l2.length : Int) x34_2 true ((rd_T67 l2 x34_2).f0) ((rd_T67 l2 x34_2).f1) ((rd_T67 l2 x34_2).f2))) = some (r1, r2) := H
                                  have A32 := Aside0.mk A320
                                  clear A320
                                  by_cases c33 : t117 = true
                                  · subst c33
                                    have H1 : (if 0 ≤ ((rd_T67 l2 x34_2).f1) then (if ((rd_T67 l2 x34_2).f1) < (x8_2.length : Int) then (spec_deArrivals.j2 k2 a0 a1 l2 x8_2 x34_2 l2 (l2.length : Int) x34_2 (decide ((rd x8_2 ((rd_T67 l2 x34_2).f1)) ≥ 0)) ((rd_T67 l2 x34_2).f0) ((rd_T67 l2 x34_2).f1) ((rd_T67 l2 x34_2).f2)) else (none)) else (none)) = some (r1, r2) := by rw [if_pos rfl] at H; exact H
                                    clear H
                                    have H := H1
                                    clear H1
                                    by_cases c34 : 0 ≤ ((rd_T67 l2 x34_2).f1)
                                    · rw [if_pos c34] at H
                                      have c34b0 : decide (0 ≤ ((rd_T67 l2 x34_2).f1)) = true := decide_eq_true c34
                                      (try (have c34b0h := c34b0; simp only [hl8_1, hl8_2] at c34b0h))
                                      clear c34
                                      by_cases c35 : ((rd_T67 l2 x34_2).f1) < (x8_2.length : Int)
                                      · rw [if_pos c35] at H
                                        have c35b0 : decide (((rd_T67 l2 x34_2).f1) < (x8_2.length : Int)) = true := decide_eq_true c35
                                        (try (have c35b0h := c35b0; simp only [hl8_1, hl8_2] at c35b0h))
                                        clear c35
                                        have H' := Aside0.mk H
                                        clear H
                                        have hcz36_0 : w24.cell? ⟨gb114, 0, none⟩ = some (.int .i64 0) := (blk_cell BK114.out 0).trans rfl
                                        have hcz36_1 : w24.cell? ⟨gb114, 1, none⟩ = some (.int .i64 0) := (blk_cell BK114.out 1).trans rfl
                                        have hcz36_2 : w24.cell? ⟨gb114, 2, none⟩ = some (.int .i64 0) := (blk_cell BK114.out 2).trans rfl
                                        have hfz36_0 := blk_frozen BK114.out 0
                                        have hfz36_1 := blk_frozen BK114.out 1
                                        have hfz36_2 := blk_frozen BK114.out 2
                                        go_wp2_with (first | (go_at_call 61; (with_reducible refine (spec_l1In.calls ((rd_T67 l2 x34_2).f0) 0 (wrap64 (a1 - 1)) true _ A26.out).mono ?_); rintro e w' ⟨rfl, ⟨nd, rfl⟩⟩; (try first | exact ⟨rfl, _, World.drewN_drewN _ _ _⟩ | exact ⟨rfl, _, Eq.trans (World.drewN_drewN _ _ _) (congrArg (World.drewN _) (Nat.add_assoc _ _ _))⟩)) | (go_at_call 61; (with_reducible refine (spec_l1In.calls ((rd_T67 l2 x34_2).f1) 1 (wrap64 (a1 - 1)) true _ A28.out).mono ?_); rintro e w' ⟨rfl, ⟨nd, rfl⟩⟩; (try first | exact ⟨rfl, _, World.drewN_drewN _ _ _⟩ | exact ⟨rfl, _, Eq.trans (World.drewN_drewN _ _ _) (congrArg (World.drewN _) (Nat.add_assoc _ _ _))⟩)) | (go_at_call 61; (with_reducible refine (spec_l1In.calls ((rd_T67 l2 x34_2).f2) 0 60 true _ A32.out).mono ?_); rintro e w' ⟨rfl, ⟨nd, rfl⟩⟩; (try first | exact ⟨rfl, _, World.drewN_drewN _ _ _⟩ | exact ⟨rfl, _, Eq.trans (World.drewN_drewN _ _ _) (congrArg (World.drewN _) (Nat.add_assoc _ _ _))⟩); have p118 : 0 ≤ (((rd_T67 l2 x34_2).f1) : Int) := of_decide_eq_true (by first | (with_reducible assumption) | assumption); have q118 : ((rd_T67 l2 x34_2).f1) < (x8_2.length : Int) := of_decide_eq_true (by first | (with_reducible assumption) | assumption); obtain ⟨ad118, e118, hx118_0⟩ := Kd.at_int (Kd.R_reads' HO_8.out).2.2 ((rd_T67 l2 x34_2).f1) p118 q118; obtain rfl : (⟨go17, 0, none⟩ : Addr) = ad118 := (by injection e118); (first | simp only [add_plain] at hx118_0 | simp only [add_at] at hx118_0 | simp only [Addr.add, Nat.zero_add] at hx118_0 | skip); have hn118_0 : (⟨go17, 0, none⟩ : Addr).block ≠ gb114 := Kd.own_blk (Kd.R_ne HO_8.out BK114.out (by decide)); have hn118_1 : (⟨go17, 0, none⟩ : Addr).block ≠ gb114 := Kd.own_blk (Kd.R_ne HO_8.out BK114.out (by decide)); have hn118_2 : (⟨go17, 0, none⟩ : Addr).block ≠ gb114 := Kd.own_blk (Kd.R_ne HO_8.out BK114.out (by decide)); replace hx118_0 := (cell_far (p := ⟨gb114, 0, none⟩) (by first | (rw [add_block]; exact hn118_0) | (show (Addr.add _ _).block ≠ _; rw [add_block]; exact hn118_0) | exact hn118_0) (.int .i64 ((rd_T67 l2 x34_2).f0))).trans hx118_0; replace hx118_0 := (cell_far (p := ⟨gb114, 1, none⟩) (by first | (rw [add_block]; exact hn118_1) | (show (Addr.add _ _).block ≠ _; rw [add_block]; exact hn118_1) | exact hn118_1) (.int .i64 ((rd_T67 l2 x34_2).f1))).trans hx118_0; replace hx118_0 := (cell_far (p := ⟨gb114, 2, none⟩) (by first | (rw [add_block]; exact hn118_2) | (show (Addr.add _ _).block ≠ _; rw [add_block]; exact hn118_2) | exact hn118_2) (.int .i64 ((rd_T67 l2 x34_2).f2))).trans hx118_0; (try have hy118_0 := fun (n_ : Nat) => (show (((((w24.drewN n_).setCell ⟨gb114, 0, none⟩ (.int .i64 ((rd_T67 l2 x34_2).f0))).setCell ⟨gb114, 1, none⟩ (.int .i64 ((rd_T67 l2 x34_2).f1))).setCell ⟨gb114, 2, none⟩ (.int .i64 ((rd_T67 l2 x34_2).f2)))).cell? _ = some _ from hx118_0)); clear hn118_0; clear hn118_1; clear hn118_2; replace p118 := eq_true p118; replace q118 := eq_true q118))
                                        repeat (go_quiet (first | (go_at_call 61; (with_reducible refine (spec_l1In.calls ((rd_T67 l2 x34_2).f0) 0 (wrap64 (a1 - 1)) true _ A26.out).mono ?_); rintro e w' ⟨rfl, ⟨nd, rfl⟩⟩; (try first | exact ⟨rfl, _, World.drewN_drewN _ _ _⟩ | exact ⟨rfl, _, Eq.trans (World.drewN_drewN _ _ _) (congrArg (World.drewN _) (Nat.add_assoc _ _ _))⟩)) | (go_at_call 61; (with_reducible refine (spec_l1In.calls ((rd_T67 l2 x34_2).f1) 1 (wrap64 (a1 - 1)) true _ A28.out).mono ?_); rintro e w' ⟨rfl, ⟨nd, rfl⟩⟩; (try first | exact ⟨rfl, _, World.drewN_drewN _ _ _⟩ | exact ⟨rfl, _, Eq.trans (World.drewN_drewN _ _ _) (congrArg (World.drewN _) (Nat.add_assoc _ _ _))⟩)) | (go_at_call 61; (with_reducible refine (spec_l1In.calls ((rd_T67 l2 x34_2).f2) 0 60 true _ A32.out).mono ?_); rintro e w' ⟨rfl, ⟨nd, rfl⟩⟩; (try first | exact ⟨rfl, _, World.drewN_drewN _ _ _⟩ | exact ⟨rfl, _, Eq.trans (World.drewN_drewN _ _ _) (congrArg (World.drewN _) (Nat.add_assoc _ _ _))⟩); have p118 : 0 ≤ (((rd_T67 l2 x34_2).f1) : Int) := of_decide_eq_true (by first | (with_reducible assumption) | assumption); have q118 : ((rd_T67 l2 x34_2).f1) < (x8_2.length : Int) := of_decide_eq_true (by first | (with_reducible assumption) | assumption); obtain ⟨ad118, e118, hx118_0⟩ := Kd.at_int (Kd.R_reads' HO_8.out).2.2 ((rd_T67 l2 x34_2).f1) p118 q118; obtain rfl : (⟨go17, 0, none⟩ : Addr) = ad118 := (by injection e118); (first | simp only [add_plain] at hx118_0 | simp only [add_at] at hx118_0 | simp only [Addr.add, Nat.zero_add] at hx118_0 | skip); have hn118_0 : (⟨go17, 0, none⟩ : Addr).block ≠ gb114 := Kd.own_blk (Kd.R_ne HO_8.out BK114.out (by decide)); have hn118_1 : (⟨go17, 0, none⟩ : Addr).block ≠ gb114 := Kd.own_blk (Kd.R_ne HO_8.out BK114.out (by decide)); have hn118_2 : (⟨go17, 0, none⟩ : Addr).block ≠ gb114 := Kd.own_blk (Kd.R_ne HO_8.out BK114.out (by decide)); replace hx118_0 := (cell_far (p := ⟨gb114, 0, none⟩) (by first | (rw [add_block]; exact hn118_0) | (show (Addr.add _ _).block ≠ _; rw [add_block]; exact hn118_0) | exact hn118_0) (.int .i64 ((rd_T67 l2 x34_2).f0))).trans hx118_0; replace hx118_0 := (cell_far (p := ⟨gb114, 1, none⟩) (by first | (rw [add_block]; exact hn118_1) | (show (Addr.add _ _).block ≠ _; rw [add_block]; exact hn118_1) | exact hn118_1) (.int .i64 ((rd_T67 l2 x34_2).f1))).trans hx118_0; replace hx118_0 := (cell_far (p := ⟨gb114, 2, none⟩) (by first | (rw [add_block]; exact hn118_2) | (show (Addr.add _ _).block ≠ _; rw [add_block]; exact hn118_2) | exact hn118_2) (.int .i64 ((rd_T67 l2 x34_2).f2))).trans hx118_0; (try have hy118_0 := fun (n_ : Nat) => (show (((((w24.drewN n_).setCell ⟨gb114, 0, none⟩ (.int .i64 ((rd_T67 l2 x34_2).f0))).setCell ⟨gb114, 1, none⟩ (.int .i64 ((rd_T67 l2 x34_2).f1))).setCell ⟨gb114, 2, none⟩ (.int .i64 ((rd_T67 l2 x34_2).f2)))).cell? _ = some _ from hx118_0)); clear hn118_0; clear hn118_1; clear hn118_2; replace p118 := eq_true p118; replace q118 := eq_true q118)); try go_wp2_with (first | (go_at_call 61; (with_reducible refine (spec_l1In.calls ((rd_T67 l2 x34_2).f0) 0 (wrap64 (a1 - 1)) true _ A26.out).mono ?_); rintro e w' ⟨rfl, ⟨nd, rfl⟩⟩; (try first | exact ⟨rfl, _, World.drewN_drewN _ _ _⟩ | exact ⟨rfl, _, Eq.trans (World.drewN_drewN _ _ _) (congrArg (World.drewN _) (Nat.add_assoc _ _ _))⟩)) | (go_at_call 61; (with_reducible refine (spec_l1In.calls ((rd_T67 l2 x34_2).f1) 1 (wrap64 (a1 - 1)) true _ A28.out).mono ?_); rintro e w' ⟨rfl, ⟨nd, rfl⟩⟩; (try first | exact ⟨rfl, _, World.drewN_drewN _ _ _⟩ | exact ⟨rfl, _, Eq.trans (World.drewN_drewN _ _ _) (congrArg (World.drewN _) (Nat.add_assoc _ _ _))⟩)) | (go_at_call 61; (with_reducible refine (spec_l1In.calls ((rd_T67 l2 x34_2).f2) 0 60 true _ A32.out).mono ?_); rintro e w' ⟨rfl, ⟨nd, rfl⟩⟩; (try first | exact ⟨rfl, _, World.drewN_drewN _ _ _⟩ | exact ⟨rfl, _, Eq.trans (World.drewN_drewN _ _ _) (congrArg (World.drewN _) (Nat.add_assoc _ _ _))⟩); have p118 : 0 ≤ (((rd_T67 l2 x34_2).f1) : Int) := of_decide_eq_true (by first | (with_reducible assumption) | assumption); have q118 : ((rd_T67 l2 x34_2).f1) < (x8_2.length : Int) := of_decide_eq_true (by first | (with_reducible assumption) | assumption); obtain ⟨ad118, e118, hx118_0⟩ := Kd.at_int (Kd.R_reads' HO_8.out).2.2 ((rd_T67 l2 x34_2).f1) p118 q118; obtain rfl : (⟨go17, 0, none⟩ : Addr) = ad118 := (by injection e118); (first | simp only [add_plain] at hx118_0 | simp only [add_at] at hx118_0 | simp only [Addr.add, Nat.zero_add] at hx118_0 | skip); have hn118_0 : (⟨go17, 0, none⟩ : Addr).block ≠ gb114 := Kd.own_blk (Kd.R_ne HO_8.out BK114.out (by decide)); have hn118_1 : (⟨go17, 0, none⟩ : Addr).block ≠ gb114 := Kd.own_blk (Kd.R_ne HO_8.out BK114.out (by decide)); have hn118_2 : (⟨go17, 0, none⟩ : Addr).block ≠ gb114 := Kd.own_blk (Kd.R_ne HO_8.out BK114.out (by decide)); replace hx118_0 := (cell_far (p := ⟨gb114, 0, none⟩) (by first | (rw [add_block]; exact hn118_0) | (show (Addr.add _ _).block ≠ _; rw [add_block]; exact hn118_0) | exact hn118_0) (.int .i64 ((rd_T67 l2 x34_2).f0))).trans hx118_0; replace hx118_0 := (cell_far (p := ⟨gb114, 1, none⟩) (by first | (rw [add_block]; exact hn118_1) | (show (Addr.add _ _).block ≠ _; rw [add_block]; exact hn118_1) | exact hn118_1) (.int .i64 ((rd_T67 l2 x34_2).f1))).trans hx118_0; replace hx118_0 := (cell_far (p := ⟨gb114, 2, none⟩) (by first | (rw [add_block]; exact hn118_2) | (show (Addr.add _ _).block ≠ _; rw [add_block]; exact hn118_2) | exact hn118_2) (.int .i64 ((rd_T67 l2 x34_2).f2))).trans hx118_0; (try have hy118_0 := fun (n_ : Nat) => (show (((((w24.drewN n_).setCell ⟨gb114, 0, none⟩ (.int .i64 ((rd_T67 l2 x34_2).f0))).setCell ⟨gb114, 1, none⟩ (.int .i64 ((rd_T67 l2 x34_2).f1))).setCell ⟨gb114, 2, none⟩ (.int .i64 ((rd_T67 l2 x34_2).f2)))).cell? _ = some _ from hx118_0)); clear hn118_0; clear hn118_1; clear hn118_2; replace p118 := eq_true p118; replace q118 := eq_true q118)))
                                        go_meet
                                        case rel => exact ⟨_, (decide ((rd x8_2 ((rd_T67 l2 x34_2).f1)) ≥ 0)), (by first | rfl | (simp; done) | (simp [*]; done)), H', ⟨by have := HK1.out; have := HK2.out; first | omega | exact Nat.le_refl _⟩, ⟨by (try simp only [hl8_1]); (try simp only [hl8_2]); (with_reducible repeat (first | apply Kd.R_alloc | apply Kd.R_drewN | apply Kd.R_drew)); exact Kd.R_mono (Kd.R_far (p := ⟨gb114, 2, none⟩) (Kd.R_far (p := ⟨gb114, 1, none⟩) (Kd.R_far (p := ⟨gb114, 0, none⟩) (Kd.R_types HO_8.out BK114.out (by decide)) (fun _ hk => hk.2) (.int .i64 ((rd_T67 l2 x34_2).f0))) (fun _ hk => hk.2) (.int .i64 ((rd_T67 l2 x34_2).f1))) (fun _ hk => hk.2) (.int .i64 ((rd_T67 l2 x34_2).f2))) (fun _ hk => trivial)⟩, ⟨by (try simp only [hl8_1]); (try simp only [hl8_2]); (with_reducible repeat (first | refine blk_drewN ?_ _ | refine blk_drew ?_ | refine blk_alloc ?_ _)); refine blk_put (cs := #[.int .i64 ((rd_T67 l2 x34_2).f0), .int .i64 ((rd_T67 l2 x34_2).f1), .int .i64 0]) ?_ 2 _ rfl; (with_reducible repeat (first | refine blk_drewN ?_ _ | refine blk_drew ?_ | refine blk_alloc ?_ _)); refine blk_put (cs := #[.int .i64 ((rd_T67 l2 x34_2).f0), .int .i64 0, .int .i64 0]) ?_ 1 _ rfl; (with_reducible repeat (first | refine blk_drewN ?_ _ | refine blk_drew ?_ | refine blk_alloc ?_ _)); refine blk_put (cs := #[.int .i64 0, .int .i64 0, .int .i64 0]) ?_ 0 _ rfl; (with_reducible repeat (first | refine blk_drewN ?_ _ | refine blk_drew ?_ | refine blk_alloc ?_ _)); exact BK114.out⟩, ⟨by repeat (first | (with_reducible first | exact HB.out | apply below_alloc | apply pw_below_drewN | apply below_drew1 | refine below_set ?_ GE114.out) | exact HB.out)⟩⟩
                                      · rw [if_neg c35] at H
                                        exact absurd H (by simp)
                                    · rw [if_neg c34] at H
                                      exact absurd H (by simp)
                                  · replace c33 := Bool.eq_false_iff.mpr c33
                                    subst c33
                                    have H1 : (spec_deArrivals.j2 k2 a0 a1 l2 x8_2 x34_2 l2 (l2.length : Int) x34_2 true ((rd_T67 l2 x34_2).f0) ((rd_T67 l2 x34_2).f1) ((rd_T67 l2 x34_2).f2)) = some (r1, r2) := by rw [if_neg (show ¬ (false = true) by decide)] at H; exact H
                                    clear H
                                    have H := H1
                                    clear H1
                                    have H' := Aside0.mk H
                                    clear H
                                    have hcz37_0 : w24.cell? ⟨gb114, 0, none⟩ = some (.int .i64 0) := (blk_cell BK114.out 0).trans rfl
                                    have hcz37_1 : w24.cell? ⟨gb114, 1, none⟩ = some (.int .i64 0) := (blk_cell BK114.out 1).trans rfl
                                    have hcz37_2 : w24.cell? ⟨gb114, 2, none⟩ = some (.int .i64 0) := (blk_cell BK114.out 2).trans rfl
                                    have hfz37_0 := blk_frozen BK114.out 0
                                    have hfz37_1 := blk_frozen BK114.out 1
                                    have hfz37_2 := blk_frozen BK114.out 2
                                    go_wp2_with (first | (go_at_call 61; (with_reducible refine (spec_l1In.calls ((rd_T67 l2 x34_2).f0) 0 (wrap64 (a1 - 1)) true _ A26.out).mono ?_); rintro e w' ⟨rfl, ⟨nd, rfl⟩⟩; (try first | exact ⟨rfl, _, World.drewN_drewN _ _ _⟩ | exact ⟨rfl, _, Eq.trans (World.drewN_drewN _ _ _) (congrArg (World.drewN _) (Nat.add_assoc _ _ _))⟩)) | (go_at_call 61; (with_reducible refine (spec_l1In.calls ((rd_T67 l2 x34_2).f1) 1 (wrap64 (a1 - 1)) true _ A28.out).mono ?_); rintro e w' ⟨rfl, ⟨nd, rfl⟩⟩; (try first | exact ⟨rfl, _, World.drewN_drewN _ _ _⟩ | exact ⟨rfl, _, Eq.trans (World.drewN_drewN _ _ _) (congrArg (World.drewN _) (Nat.add_assoc _ _ _))⟩)) | (go_at_call 61; (with_reducible refine (spec_l1In.calls ((rd_T67 l2 x34_2).f2) 0 60 false _ A32.out).mono ?_); rintro e w' ⟨rfl, ⟨nd, rfl⟩⟩; (try first | exact ⟨rfl, _, World.drewN_drewN _ _ _⟩ | exact ⟨rfl, _, Eq.trans (World.drewN_drewN _ _ _) (congrArg (World.drewN _) (Nat.add_assoc _ _ _))⟩)))
                                    repeat (go_quiet (first | (go_at_call 61; (with_reducible refine (spec_l1In.calls ((rd_T67 l2 x34_2).f0) 0 (wrap64 (a1 - 1)) true _ A26.out).mono ?_); rintro e w' ⟨rfl, ⟨nd, rfl⟩⟩; (try first | exact ⟨rfl, _, World.drewN_drewN _ _ _⟩ | exact ⟨rfl, _, Eq.trans (World.drewN_drewN _ _ _) (congrArg (World.drewN _) (Nat.add_assoc _ _ _))⟩)) | (go_at_call 61; (with_reducible refine (spec_l1In.calls ((rd_T67 l2 x34_2).f1) 1 (wrap64 (a1 - 1)) true _ A28.out).mono ?_); rintro e w' ⟨rfl, ⟨nd, rfl⟩⟩; (try first | exact ⟨rfl, _, World.drewN_drewN _ _ _⟩ | exact ⟨rfl, _, Eq.trans (World.drewN_drewN _ _ _) (congrArg (World.drewN _) (Nat.add_assoc _ _ _))⟩)) | (go_at_call 61; (with_reducible refine (spec_l1In.calls ((rd_T67 l2 x34_2).f2) 0 60 false _ A32.out).mono ?_); rintro e w' ⟨rfl, ⟨nd, rfl⟩⟩; (try first | exact ⟨rfl, _, World.drewN_drewN _ _ _⟩ | exact ⟨rfl, _, Eq.trans (World.drewN_drewN _ _ _) (congrArg (World.drewN _) (Nat.add_assoc _ _ _))⟩))); try go_wp2_with (first | (go_at_call 61; (with_reducible refine (spec_l1In.calls ((rd_T67 l2 x34_2).f0) 0 (wrap64 (a1 - 1)) true _ A26.out).mono ?_); rintro e w' ⟨rfl, ⟨nd, rfl⟩⟩; (try first | exact ⟨rfl, _, World.drewN_drewN _ _ _⟩ | exact ⟨rfl, _, Eq.trans (World.drewN_drewN _ _ _) (congrArg (World.drewN _) (Nat.add_assoc _ _ _))⟩)) | (go_at_call 61; (with_reducible refine (spec_l1In.calls ((rd_T67 l2 x34_2).f1) 1 (wrap64 (a1 - 1)) true _ A28.out).mono ?_); rintro e w' ⟨rfl, ⟨nd, rfl⟩⟩; (try first | exact ⟨rfl, _, World.drewN_drewN _ _ _⟩ | exact ⟨rfl, _, Eq.trans (World.drewN_drewN _ _ _) (congrArg (World.drewN _) (Nat.add_assoc _ _ _))⟩)) | (go_at_call 61; (with_reducible refine (spec_l1In.calls ((rd_T67 l2 x34_2).f2) 0 60 false _ A32.out).mono ?_); rintro e w' ⟨rfl, ⟨nd, rfl⟩⟩; (try first | exact ⟨rfl, _, World.drewN_drewN _ _ _⟩ | exact ⟨rfl, _, Eq.trans (World.drewN_drewN _ _ _) (congrArg (World.drewN _) (Nat.add_assoc _ _ _))⟩))))
                                    go_meet
                                    case rel => exact ⟨_, (true), (by first | rfl | (simp; done) | (simp [*]; done)), H', ⟨by have := HK1.out; have := HK2.out; first | omega | exact Nat.le_refl _⟩, ⟨by (try simp only [hl8_1]); (try simp only [hl8_2]); (with_reducible repeat (first | apply Kd.R_alloc | apply Kd.R_drewN | apply Kd.R_drew)); exact Kd.R_mono (Kd.R_far (p := ⟨gb114, 2, none⟩) (Kd.R_far (p := ⟨gb114, 1, none⟩) (Kd.R_far (p := ⟨gb114, 0, none⟩) (Kd.R_types HO_8.out BK114.out (by decide)) (fun _ hk => hk.2) (.int .i64 ((rd_T67 l2 x34_2).f0))) (fun _ hk => hk.2) (.int .i64 ((rd_T67 l2 x34_2).f1))) (fun _ hk => hk.2) (.int .i64 ((rd_T67 l2 x34_2).f2))) (fun _ hk => trivial)⟩, ⟨by (try simp only [hl8_1]); (try simp only [hl8_2]); (with_reducible repeat (first | refine blk_drewN ?_ _ | refine blk_drew ?_ | refine blk_alloc ?_ _)); refine blk_put (cs := #[.int .i64 ((rd_T67 l2 x34_2).f0), .int .i64 ((rd_T67 l2 x34_2).f1), .int .i64 0]) ?_ 2 _ rfl; (with_reducible repeat (first | refine blk_drewN ?_ _ | refine blk_drew ?_ | refine blk_alloc ?_ _)); refine blk_put (cs := #[.int .i64 ((rd_T67 l2 x34_2).f0), .int .i64 0, .int .i64 0]) ?_ 1 _ rfl; (with_reducible repeat (first | refine blk_drewN ?_ _ | refine blk_drew ?_ | refine blk_alloc ?_ _)); refine blk_put (cs := #[.int .i64 0, .int .i64 0, .int .i64 0]) ?_ 0 _ rfl; (with_reducible repeat (first | refine blk_drewN ?_ _ | refine blk_drew ?_ | refine blk_alloc ?_ _)); exact BK114.out⟩, ⟨by repeat (first | (with_reducible first | exact HB.out | apply below_alloc | apply pw_below_drewN | apply below_drew1 | refine below_set ?_ GE114.out) | exact HB.out)⟩⟩
                              · replace c29 := Bool.eq_false_iff.mpr c29
                                subst c29
                                have H1 : (spec_deArrivals.j2 k2 a0 a1 l2 x8_2 x34_2 l2 (l2.length : Int) x34_2 true ((rd_T67 l2 x34_2).f0) ((rd_T67 l2 x34_2).f1) ((rd_T67 l2 x34_2).f2)) = some (r1, r2) := by rw [if_neg (show ¬ (false = true) by decide)] at H; exact H
                                clear H
                                have H := H1
                                clear H1
                                have H' := Aside0.mk H
                                clear H
                                have hcz38_0 : w24.cell? ⟨gb114, 0, none⟩ = some (.int .i64 0) := (blk_cell BK114.out 0).trans rfl
                                have hcz38_1 : w24.cell? ⟨gb114, 1, none⟩ = some (.int .i64 0) := (blk_cell BK114.out 1).trans rfl
                                have hcz38_2 : w24.cell? ⟨gb114, 2, none⟩ = some (.int .i64 0) := (blk_cell BK114.out 2).trans rfl
                                have hfz38_0 := blk_frozen BK114.out 0
                                have hfz38_1 := blk_frozen BK114.out 1
                                have hfz38_2 := blk_frozen BK114.out 2
                                go_wp2_with (first | (go_at_call 61; (with_reducible refine (spec_l1In.calls ((rd_T67 l2 x34_2).f0) 0 (wrap64 (a1 - 1)) true _ A26.out).mono ?_); rintro e w' ⟨rfl, ⟨nd, rfl⟩⟩; (try first | exact ⟨rfl, _, World.drewN_drewN _ _ _⟩ | exact ⟨rfl, _, Eq.trans (World.drewN_drewN _ _ _) (congrArg (World.drewN _) (Nat.add_assoc _ _ _))⟩)) | (go_at_call 61; (with_reducible refine (spec_l1In.calls ((rd_T67 l2 x34_2).f1) 1 (wrap64 (a1 - 1)) false _ A28.out).mono ?_); rintro e w' ⟨rfl, ⟨nd, rfl⟩⟩; (try first | exact ⟨rfl, _, World.drewN_drewN _ _ _⟩ | exact ⟨rfl, _, Eq.trans (World.drewN_drewN _ _ _) (congrArg (World.drewN _) (Nat.add_assoc _ _ _))⟩)))
                                repeat (go_quiet (first | (go_at_call 61; (with_reducible refine (spec_l1In.calls ((rd_T67 l2 x34_2).f0) 0 (wrap64 (a1 - 1)) true _ A26.out).mono ?_); rintro e w' ⟨rfl, ⟨nd, rfl⟩⟩; (try first | exact ⟨rfl, _, World.drewN_drewN _ _ _⟩ | exact ⟨rfl, _, Eq.trans (World.drewN_drewN _ _ _) (congrArg (World.drewN _) (Nat.add_assoc _ _ _))⟩)) | (go_at_call 61; (with_reducible refine (spec_l1In.calls ((rd_T67 l2 x34_2).f1) 1 (wrap64 (a1 - 1)) false _ A28.out).mono ?_); rintro e w' ⟨rfl, ⟨nd, rfl⟩⟩; (try first | exact ⟨rfl, _, World.drewN_drewN _ _ _⟩ | exact ⟨rfl, _, Eq.trans (World.drewN_drewN _ _ _) (congrArg (World.drewN _) (Nat.add_assoc _ _ _))⟩))); try go_wp2_with (first | (go_at_call 61; (with_reducible refine (spec_l1In.calls ((rd_T67 l2 x34_2).f0) 0 (wrap64 (a1 - 1)) true _ A26.out).mono ?_); rintro e w' ⟨rfl, ⟨nd, rfl⟩⟩; (try first | exact ⟨rfl, _, World.drewN_drewN _ _ _⟩ | exact ⟨rfl, _, Eq.trans (World.drewN_drewN _ _ _) (congrArg (World.drewN _) (Nat.add_assoc _ _ _))⟩)) | (go_at_call 61; (with_reducible refine (spec_l1In.calls ((rd_T67 l2 x34_2).f1) 1 (wrap64 (a1 - 1)) false _ A28.out).mono ?_); rintro e w' ⟨rfl, ⟨nd, rfl⟩⟩; (try first | exact ⟨rfl, _, World.drewN_drewN _ _ _⟩ | exact ⟨rfl, _, Eq.trans (World.drewN_drewN _ _ _) (congrArg (World.drewN _) (Nat.add_assoc _ _ _))⟩))))
                                go_meet
                                case rel => exact ⟨_, (true), (by first | rfl | (simp; done) | (simp [*]; done)), H', ⟨by have := HK1.out; have := HK2.out; first | omega | exact Nat.le_refl _⟩, ⟨by (try simp only [hl8_1]); (try simp only [hl8_2]); (with_reducible repeat (first | apply Kd.R_alloc | apply Kd.R_drewN | apply Kd.R_drew)); exact Kd.R_mono (Kd.R_far (p := ⟨gb114, 2, none⟩) (Kd.R_far (p := ⟨gb114, 1, none⟩) (Kd.R_far (p := ⟨gb114, 0, none⟩) (Kd.R_types HO_8.out BK114.out (by decide)) (fun _ hk => hk.2) (.int .i64 ((rd_T67 l2 x34_2).f0))) (fun _ hk => hk.2) (.int .i64 ((rd_T67 l2 x34_2).f1))) (fun _ hk => hk.2) (.int .i64 ((rd_T67 l2 x34_2).f2))) (fun _ hk => trivial)⟩, ⟨by (try simp only [hl8_1]); (try simp only [hl8_2]); (with_reducible repeat (first | refine blk_drewN ?_ _ | refine blk_drew ?_ | refine blk_alloc ?_ _)); refine blk_put (cs := #[.int .i64 ((rd_T67 l2 x34_2).f0), .int .i64 ((rd_T67 l2 x34_2).f1), .int .i64 0]) ?_ 2 _ rfl; (with_reducible repeat (first | refine blk_drewN ?_ _ | refine blk_drew ?_ | refine blk_alloc ?_ _)); refine blk_put (cs := #[.int .i64 ((rd_T67 l2 x34_2).f0), .int .i64 0, .int .i64 0]) ?_ 1 _ rfl; (with_reducible repeat (first | refine blk_drewN ?_ _ | refine blk_drew ?_ | refine blk_alloc ?_ _)); refine blk_put (cs := #[.int .i64 0, .int .i64 0, .int .i64 0]) ?_ 0 _ rfl; (with_reducible repeat (first | refine blk_drewN ?_ _ | refine blk_drew ?_ | refine blk_alloc ?_ _)); exact BK114.out⟩, ⟨by repeat (first | (with_reducible first | exact HB.out | apply below_alloc | apply pw_below_drewN | apply below_drew1 | refine below_set ?_ GE114.out) | exact HB.out)⟩⟩
                            · replace c27 := Bool.eq_false_iff.mpr c27
                              subst c27
                              have H1 : (spec_deArrivals.j2 k2 a0 a1 l2 x8_2 x34_2 l2 (l2.length : Int) x34_2 true ((rd_T67 l2 x34_2).f0) ((rd_T67 l2 x34_2).f1) ((rd_T67 l2 x34_2).f2)) = some (r1, r2) := by rw [if_neg (show ¬ (false = true) by decide)] at H; exact H
                              clear H
                              have H := H1
                              clear H1
                              have H' := Aside0.mk H
                              clear H
                              have hcz39_0 : w24.cell? ⟨gb114, 0, none⟩ = some (.int .i64 0) := (blk_cell BK114.out 0).trans rfl
                              have hcz39_1 : w24.cell? ⟨gb114, 1, none⟩ = some (.int .i64 0) := (blk_cell BK114.out 1).trans rfl
                              have hcz39_2 : w24.cell? ⟨gb114, 2, none⟩ = some (.int .i64 0) := (blk_cell BK114.out 2).trans rfl
                              have hfz39_0 := blk_frozen BK114.out 0
                              have hfz39_1 := blk_frozen BK114.out 1
                              have hfz39_2 := blk_frozen BK114.out 2
                              go_wp2_with (first | (go_at_call 61; (with_reducible refine (spec_l1In.calls ((rd_T67 l2 x34_2).f0) 0 (wrap64 (a1 - 1)) false _ A26.out).mono ?_); rintro e w' ⟨rfl, ⟨nd, rfl⟩⟩; (try first | exact ⟨rfl, _, World.drewN_drewN _ _ _⟩ | exact ⟨rfl, _, Eq.trans (World.drewN_drewN _ _ _) (congrArg (World.drewN _) (Nat.add_assoc _ _ _))⟩)))
                              repeat (go_quiet (first | (go_at_call 61; (with_reducible refine (spec_l1In.calls ((rd_T67 l2 x34_2).f0) 0 (wrap64 (a1 - 1)) false _ A26.out).mono ?_); rintro e w' ⟨rfl, ⟨nd, rfl⟩⟩; (try first | exact ⟨rfl, _, World.drewN_drewN _ _ _⟩ | exact ⟨rfl, _, Eq.trans (World.drewN_drewN _ _ _) (congrArg (World.drewN _) (Nat.add_assoc _ _ _))⟩))); try go_wp2_with (first | (go_at_call 61; (with_reducible refine (spec_l1In.calls ((rd_T67 l2 x34_2).f0) 0 (wrap64 (a1 - 1)) false _ A26.out).mono ?_); rintro e w' ⟨rfl, ⟨nd, rfl⟩⟩; (try first | exact ⟨rfl, _, World.drewN_drewN _ _ _⟩ | exact ⟨rfl, _, Eq.trans (World.drewN_drewN _ _ _) (congrArg (World.drewN _) (Nat.add_assoc _ _ _))⟩))))
                              go_meet
                              case rel => exact ⟨_, (true), (by first | rfl | (simp; done) | (simp [*]; done)), H', ⟨by have := HK1.out; have := HK2.out; first | omega | exact Nat.le_refl _⟩, ⟨by (try simp only [hl8_1]); (try simp only [hl8_2]); (with_reducible repeat (first | apply Kd.R_alloc | apply Kd.R_drewN | apply Kd.R_drew)); exact Kd.R_mono (Kd.R_far (p := ⟨gb114, 2, none⟩) (Kd.R_far (p := ⟨gb114, 1, none⟩) (Kd.R_far (p := ⟨gb114, 0, none⟩) (Kd.R_types HO_8.out BK114.out (by decide)) (fun _ hk => hk.2) (.int .i64 ((rd_T67 l2 x34_2).f0))) (fun _ hk => hk.2) (.int .i64 ((rd_T67 l2 x34_2).f1))) (fun _ hk => hk.2) (.int .i64 ((rd_T67 l2 x34_2).f2))) (fun _ hk => trivial)⟩, ⟨by (try simp only [hl8_1]); (try simp only [hl8_2]); (with_reducible repeat (first | refine blk_drewN ?_ _ | refine blk_drew ?_ | refine blk_alloc ?_ _)); refine blk_put (cs := #[.int .i64 ((rd_T67 l2 x34_2).f0), .int .i64 ((rd_T67 l2 x34_2).f1), .int .i64 0]) ?_ 2 _ rfl; (with_reducible repeat (first | refine blk_drewN ?_ _ | refine blk_drew ?_ | refine blk_alloc ?_ _)); refine blk_put (cs := #[.int .i64 ((rd_T67 l2 x34_2).f0), .int .i64 0, .int .i64 0]) ?_ 1 _ rfl; (with_reducible repeat (first | refine blk_drewN ?_ _ | refine blk_drew ?_ | refine blk_alloc ?_ _)); refine blk_put (cs := #[.int .i64 0, .int .i64 0, .int .i64 0]) ?_ 0 _ rfl; (with_reducible repeat (first | refine blk_drewN ?_ _ | refine blk_drew ?_ | refine blk_alloc ?_ _)); exact BK114.out⟩, ⟨by repeat (first | (with_reducible first | exact HB.out | apply below_alloc | apply pw_below_drewN | apply below_drew1 | refine below_set ?_ GE114.out) | exact HB.out)⟩⟩
                          case rest =>
                            clear HC23
                            try clear c1
                            try clear p1
                            try clear q1
                            try clear hx1
                            try clear qi1
                            try clear c2
                            try clear p2
                            try clear c3
                            try clear c4
                            try clear c4b0
                            try clear c4b1
                            try clear c5
                            try clear c5b0
                            try clear c5b1
                            try clear c6
                            try clear c6b0
                            try clear c6b1
                            try clear p6
                            try clear c9
                            try clear c10
                            try clear c10b0
                            try clear c11
                            try clear c11b0
                            try clear p11
                            try clear q11
                            try clear hx11
                            try clear c12
                            try clear c12b0
                            try clear p13
                            try clear q13
                            try clear hx13
                            try clear hf13
                            try clear c16
                            try clear c16b0
                            try clear c16b1
                            try clear p17
                            try clear q17
                            try clear hx17
                            try clear qi17
                            try clear hf17
                            try clear c20
                            try clear c20b0
                            try clear c21
                            try clear c21b0
                            try clear c22
                            try clear c22b0
                            try clear c27
                            try clear c29
                            try clear c30
                            try clear c30b0
                            try clear c30b1
                            try clear c33
                            try clear c34
                            try clear c34b0
                            try clear c35
                            try clear c35b0
                            try clear hcz25_0
                            try clear hcz25_1
                            try clear hcz25_2
                            try clear hcz31_0
                            try clear hcz31_1
                            try clear hcz31_2
                            try clear hcz36_0
                            try clear hcz36_1
                            try clear hcz36_2
                            try clear hcz37_0
                            try clear hcz37_1
                            try clear hcz37_2
                            try clear hcz38_0
                            try clear hcz38_1
                            try clear hcz38_2
                            try clear hcz39_0
                            try clear hcz39_1
                            try clear hcz39_2
                            try clear hfz25_0
                            try clear hfz25_1
                            try clear hfz25_2
                            try clear hfz31_0
                            try clear hfz31_1
                            try clear hfz31_2
                            try clear hfz36_0
                            try clear hfz36_1
                            try clear hfz36_2
                            try clear hfz37_0
                            try clear hfz37_1
                            try clear hfz37_2
                            try clear hfz38_0
                            try clear hfz38_1
                            try clear hfz38_2
                            try clear hfz39_0
                            try clear hfz39_1
                            try clear hfz39_2
                            try clear hx113_0
                            try clear hx113_1
                            try clear hx113_2
                            try clear hx118_0
                            try clear hx13_0
                            try clear hx17_0
                            try clear p1
                            try clear p113
                            try clear p118
                            try clear p13
                            try clear p17
                            try clear p2
                            try clear p6
                            try clear q1
                            try clear q113
                            try clear q118
                            try clear q13
                            try clear q17
                            obtain ⟨kq, x73_22, rfl, HA, HJ22, HO_8, BK114, HB⟩ := hcut
                            cases kq with
                            | zero => exact absurd HA.out (by simp [spec_deArrivals.j2])
                            | succ kj22 =>
                              have H := HA.out
                              clear HA
                              simp only [spec_deArrivals.j2] at H
                              by_cases c40 : x73_22 = true
                              · subst c40
                                have H1 : (some (([] : List Int), false)) = some (r1, r2) := by rw [if_pos rfl] at H; exact H
                                clear H
                                have H := H1
                                clear H1
                                simp only [Option.some.injEq, Prod.mk.injEq] at H
                                obtain ⟨rfl, rfl⟩ := H
                                go_wp2
                                repeat (go_quiet (fail); try go_wp2)
                                go_ret2
                                exact ⟨_, by first | rfl | (simp [errW_none, errW_some] <;> rfl) | (simp [*, errW_none, errW_some] <;> rfl), by first | exact Kd.R_nil _ _ _ _ _ | exact Kd.N_nil _ _ _ _ _ | exact Kd.V_nil _ _ _ _ _ | exact Kd.Q_nil _ _ _ _ _ | exact Kd.S_nil _ _ _ _ _, by repeat (first | (with_reducible first | exact HB.out | apply below_alloc | apply pw_below_drewN | apply below_drew1 | refine below_set ?_ GE114.out) | exact HB.out)⟩
                              · replace c40 := Bool.eq_false_iff.mpr c40
                                subst c40
                                have H1 : (if 0 ≤ ((rd_T67 l2 x34_2).f1) then (if ((rd_T67 l2 x34_2).f1) < (x8_2.length : Int) then (if 0 ≤ x34_2 then (if x34_2 ≤ (l2.length : Int) then ((some (l2.take (x34_2 : Int).toNat : List (S67))).bind fun y120 => (spec_deArrivals.l2 kj22 a0 a1 l2 (x8_2.set (((rd_T67 l2 x34_2).f1) : Int).toNat (wrap64 (((rd_T67 l2 x34_2).f2) + a0))) l2 (l2.length : Int) x34_2 y120 (y120.length : Int) 0 ((rd_T67 l2 x34_2).f0) ((rd_T67 l2 x34_2).f1) ((rd_T67 l2 x34_2).f2))) else (none)) else (none)) else (none)) else (none)) = some (r1, r2) := by rw [if_neg (show ¬ (false = true) by decide)] at H; exact H
                                clear H
                                have H := H1
                                clear H1
                                by_cases c41 : 0 ≤ ((rd_T67 l2 x34_2).f1)
                                · rw [if_pos c41] at H
                                  have c41b0 : decide (0 ≤ ((rd_T67 l2 x34_2).f1)) = true := decide_eq_true c41
                                  (try (have c41b0h := c41b0; simp only [hl8_1, hl8_2] at c41b0h))
                                  clear c41
                                  by_cases c42 : ((rd_T67 l2 x34_2).f1) < (x8_2.length : Int)
                                  · rw [if_pos c42] at H
                                    have c42b0 : decide (((rd_T67 l2 x34_2).f1) < (x8_2.length : Int)) = true := decide_eq_true c42
                                    (try (have c42b0h := c42b0; simp only [hl8_1, hl8_2] at c42b0h))
                                    clear c42
                                    obtain ⟨y119, hy119⟩ : ∃ y_ : List Int, y_ = (x8_2.set (((rd_T67 l2 x34_2).f1) : Int).toNat (wrap64 (((rd_T67 l2 x34_2).f2) + a0))) := ⟨_, rfl⟩
                                    replace H : (if 0 ≤ x34_2 then (if x34_2 ≤ (l2.length : Int) then ((some (l2.take (x34_2 : Int).toNat : List (S67))).bind fun y120 => (spec_deArrivals.l2 kj22 a0 a1 l2 y119 l2 (l2.length : Int) x34_2 y120 (y120.length : Int) 0 ((rd_T67 l2 x34_2).f0) ((rd_T67 l2 x34_2).f1) ((rd_T67 l2 x34_2).f2))) else (none)) else (none)) = some (r1, r2) := by first | (rw [hy119]; with_reducible exact H) | (have H2_ := (Option.bind_some _ _).symm.trans H; rw [hy119]; with_reducible exact H2_) | (have H2_ := (Option.bind_some _ _).symm.trans H; with_reducible exact H2_) | with_reducible exact H | (rw [hy119]; exact H) | exact H
                                    have Ny119 := Aside0.mk hy119
                                    clear hy119
                                    by_cases c44 : 0 ≤ x34_2
                                    · rw [if_pos c44] at H
                                      have c44b0 := eq_true c44
                                      have c44b1 : decide (0 ≤ x34_2) = true := decide_eq_true c44
                                      clear c44
                                      by_cases c45 : x34_2 ≤ (l2.length : Int)
                                      · rw [if_pos c45] at H
                                        have c45b0 := eq_true c45
                                        have c45b1 : decide (x34_2 ≤ (l2.length : Int)) = true := decide_eq_true c45
                                        clear c45
                                        obtain ⟨y120, hy120⟩ : ∃ y_ : List (S67), y_ = (l2.take (x34_2 : Int).toNat) := ⟨_, rfl⟩
                                        replace H : (spec_deArrivals.l2 kj22 a0 a1 l2 y119 l2 (l2.length : Int) x34_2 y120 (y120.length : Int) 0 ((rd_T67 l2 x34_2).f0) ((rd_T67 l2 x34_2).f1) ((rd_T67 l2 x34_2).f2)) = some (r1, r2) := by first | (rw [hy120]; with_reducible exact H) | (have H2_ := (Option.bind_some _ _).symm.trans H; rw [hy120]; with_reducible exact H2_) | (have H2_ := (Option.bind_some _ _).symm.trans H; with_reducible exact H2_) | with_reducible exact H | (rw [hy120]; exact H) | exact H
                                        have Ny120 := Aside0.mk hy120
                                        clear hy120
                                        have H' := Aside0.mk H
                                        clear H
                                        have hcz46_0 : wc.cell? ⟨gb114, 0, none⟩ = some (.int .i64 ((rd_T67 l2 x34_2).f0)) := (blk_cell BK114.out 0).trans rfl
                                        have hcz46_1 : wc.cell? ⟨gb114, 1, none⟩ = some (.int .i64 ((rd_T67 l2 x34_2).f1)) := (blk_cell BK114.out 1).trans rfl
                                        have hcz46_2 : wc.cell? ⟨gb114, 2, none⟩ = some (.int .i64 ((rd_T67 l2 x34_2).f2)) := (blk_cell BK114.out 2).trans rfl
                                        have hfz46_0 := blk_frozen BK114.out 0
                                        have hfz46_1 := blk_frozen BK114.out 1
                                        have hfz46_2 := blk_frozen BK114.out 2
                                        have p43 : 0 ≤ (((rd_T67 l2 x34_2).f1) : Int) := of_decide_eq_true (by first | (with_reducible assumption) | assumption)
                                        have q43 : (((rd_T67 l2 x34_2).f1) : Int) < ((x8_2.length : Int) : Int) := of_decide_eq_true (by first | (with_reducible assumption) | assumption)
                                        obtain ⟨hx43_0, hf43_0⟩ := Kd.R_celln 0 HO_8.out (((rd_T67 l2 x34_2).f1) : Int) p43 q43
                                        replace p43 := eq_true p43
                                        replace q43 := eq_true q43
                                        have HP47 := Kd.R_putg HO_8.out (((rd_T67 l2 x34_2).f1) : Int) (wrap64 (((rd_T67 l2 x34_2).f2) + a0))
                                        go_wp2_with (first | ((with_reducible refine gate_store (t := 3) (p := 81) rfl ?_); (try (rw [drewN_self wc]; generalize hq_ : World.drewN wc _ = wc; have n0_ := Aside0.mk (Kd.R_at hq_ HO_8.out); have n1_ := Aside0.mk (blk_at hq_ BK114.out); have n2_ := Aside0.mk (below_at hq_ HB.out); clear hq_ HO_8 BK114 HB; have HO_8 := n0_; have BK114 := n1_; have HB := n2_; clear n0_ n1_ n2_; (try (have HP47 := Kd.R_putg HO_8.out (((rd_T67 l2 x34_2).f1) : Int) (wrap64 (((rd_T67 l2 x34_2).f2) + a0)))))); refine store_event (t := 3) (p := 81) (v := ?vo_w48) (w1 := (wc.setCell ⟨go17, (((rd_T67 l2 x34_2).f1) : Int).toNat, none⟩ (.int .i64 (wrap64 (((rd_T67 l2 x34_2).f2) + a0))))) ?hg ?ho ?hn ?hr ?_; (case ho => rfl); (case hg => rfl); (case hn => rfl); (case hr => first | (go_simp; done) | (go_simp; rfl)); intro w48 hw; have hg : wc.grownBy w48 (some go17) := (by rw [hw]; exact HP47.2); have hp_ : Kd.R (Kd.int .i64) 3 w48 w.heap.size (fun _ => True) (.slice (some ⟨go17, 0, none⟩) x8_2.length co9) y119 := (by rw [hw, Ny119.out]; exact HP47.1); clear HP47; have n0_ := Aside0.mk (hp_); have n1_ := Aside0.mk (blk_grown (g := gb114) (o := .cells #[.int .i64 ((rd_T67 l2 x34_2).f0), .int .i64 ((rd_T67 l2 x34_2).f1), .int .i64 ((rd_T67 l2 x34_2).f2)] 67 (0, 0)) (by (with_reducible repeat (first | refine blk_drewN ?_ _ | refine blk_drew ?_ | refine blk_alloc ?_ _)); exact BK114.out) hg (Kd.R_ne HO_8.out BK114.out (by decide))); have n2_ := Aside0.mk ((by rw [hw]; exact below_set (HB.out) GB17.out : Below w.heap.size w w48)); clear HO_8; clear BK114; clear HB; have HO_8 := n0_; have BK114 := n1_; have HB := n2_; clear n0_ n1_ n2_; clear hg hw hp_; have q49 : (x34_2 : Int) ≤ ((l2.length : Int) : Int) := of_decide_eq_true (by first | (with_reducible assumption) | assumption); obtain ⟨i049, hi049, _, hsz49, _⟩ := info_parts info67; have hroom49 : l2.length ≤ c2 := HC2.out; have hC49 : Kd.C k67 _ (some ad113) l2.length l2 := HR2.out; have hcut49 := cut_to (P := Try.prog) 35 67 .i64 Try.underlying35 hi049 (some ad113) l2.length c2 x34_2 (of_decide_eq_true (by first | (with_reducible assumption) | assumption)) q49 hroom49; have hr49 := Kd.C_take (m := (x34_2 : Int).toNat) hC49 (by omega); have hy49 : y120.length = (x34_2 : Int).toNat := (by rw [Ny120.out, List.length_take]; omega); rw [← Ny120.out] at hr49; rw [← hy49] at hcut49; have HR123 := Aside0.mk hr49; have HC123 := Aside0.mk (show y120.length ≤ c2 from by omega); clear hr49 hC49 hroom49 hi049 hsz49; have KY49 := Aside0.mk hy49; clear hy49; replace q49 := eq_true q49))
                                        repeat (go_quiet (first | ((with_reducible refine gate_store (t := 3) (p := 81) rfl ?_); (try (rw [drewN_self wc]; generalize hq_ : World.drewN wc _ = wc; have n0_ := Aside0.mk (Kd.R_at hq_ HO_8.out); have n1_ := Aside0.mk (blk_at hq_ BK114.out); have n2_ := Aside0.mk (below_at hq_ HB.out); clear hq_ HO_8 BK114 HB; have HO_8 := n0_; have BK114 := n1_; have HB := n2_; clear n0_ n1_ n2_; (try (have HP47 := Kd.R_putg HO_8.out (((rd_T67 l2 x34_2).f1) : Int) (wrap64 (((rd_T67 l2 x34_2).f2) + a0)))))); refine store_event (t := 3) (p := 81) (v := ?vo_w48) (w1 := (wc.setCell ⟨go17, (((rd_T67 l2 x34_2).f1) : Int).toNat, none⟩ (.int .i64 (wrap64 (((rd_T67 l2 x34_2).f2) + a0))))) ?hg ?ho ?hn ?hr ?_; (case ho => rfl); (case hg => rfl); (case hn => rfl); (case hr => first | (go_simp; done) | (go_simp; rfl)); intro w48 hw; have hg : wc.grownBy w48 (some go17) := (by rw [hw]; exact HP47.2); have hp_ : Kd.R (Kd.int .i64) 3 w48 w.heap.size (fun _ => True) (.slice (some ⟨go17, 0, none⟩) x8_2.length co9) y119 := (by rw [hw, Ny119.out]; exact HP47.1); clear HP47; have n0_ := Aside0.mk (hp_); have n1_ := Aside0.mk (blk_grown (g := gb114) (o := .cells #[.int .i64 ((rd_T67 l2 x34_2).f0), .int .i64 ((rd_T67 l2 x34_2).f1), .int .i64 ((rd_T67 l2 x34_2).f2)] 67 (0, 0)) (by (with_reducible repeat (first | refine blk_drewN ?_ _ | refine blk_drew ?_ | refine blk_alloc ?_ _)); exact BK114.out) hg (Kd.R_ne HO_8.out BK114.out (by decide))); have n2_ := Aside0.mk ((by rw [hw]; exact below_set (HB.out) GB17.out : Below w.heap.size w w48)); clear HO_8; clear BK114; clear HB; have HO_8 := n0_; have BK114 := n1_; have HB := n2_; clear n0_ n1_ n2_; clear hg hw hp_; have q49 : (x34_2 : Int) ≤ ((l2.length : Int) : Int) := of_decide_eq_true (by first | (with_reducible assumption) | assumption); obtain ⟨i049, hi049, _, hsz49, _⟩ := info_parts info67; have hroom49 : l2.length ≤ c2 := HC2.out; have hC49 : Kd.C k67 _ (some ad113) l2.length l2 := HR2.out; have hcut49 := cut_to (P := Try.prog) 35 67 .i64 Try.underlying35 hi049 (some ad113) l2.length c2 x34_2 (of_decide_eq_true (by first | (with_reducible assumption) | assumption)) q49 hroom49; have hr49 := Kd.C_take (m := (x34_2 : Int).toNat) hC49 (by omega); have hy49 : y120.length = (x34_2 : Int).toNat := (by rw [Ny120.out, List.length_take]; omega); rw [← Ny120.out] at hr49; rw [← hy49] at hcut49; have HR123 := Aside0.mk hr49; have HC123 := Aside0.mk (show y120.length ≤ c2 from by omega); clear hr49 hC49 hroom49 hi049 hsz49; have KY49 := Aside0.mk hy49; clear hy49; replace q49 := eq_true q49)); try go_wp2_with (first | ((with_reducible refine gate_store (t := 3) (p := 81) rfl ?_); (try (rw [drewN_self wc]; generalize hq_ : World.drewN wc _ = wc; have n0_ := Aside0.mk (Kd.R_at hq_ HO_8.out); have n1_ := Aside0.mk (blk_at hq_ BK114.out); have n2_ := Aside0.mk (below_at hq_ HB.out); clear hq_ HO_8 BK114 HB; have HO_8 := n0_; have BK114 := n1_; have HB := n2_; clear n0_ n1_ n2_; (try (have HP47 := Kd.R_putg HO_8.out (((rd_T67 l2 x34_2).f1) : Int) (wrap64 (((rd_T67 l2 x34_2).f2) + a0)))))); refine store_event (t := 3) (p := 81) (v := ?vo_w48) (w1 := (wc.setCell ⟨go17, (((rd_T67 l2 x34_2).f1) : Int).toNat, none⟩ (.int .i64 (wrap64 (((rd_T67 l2 x34_2).f2) + a0))))) ?hg ?ho ?hn ?hr ?_; (case ho => rfl); (case hg => rfl); (case hn => rfl); (case hr => first | (go_simp; done) | (go_simp; rfl)); intro w48 hw; have hg : wc.grownBy w48 (some go17) := (by rw [hw]; exact HP47.2); have hp_ : Kd.R (Kd.int .i64) 3 w48 w.heap.size (fun _ => True) (.slice (some ⟨go17, 0, none⟩) x8_2.length co9) y119 := (by rw [hw, Ny119.out]; exact HP47.1); clear HP47; have n0_ := Aside0.mk (hp_); have n1_ := Aside0.mk (blk_grown (g := gb114) (o := .cells #[.int .i64 ((rd_T67 l2 x34_2).f0), .int .i64 ((rd_T67 l2 x34_2).f1), .int .i64 ((rd_T67 l2 x34_2).f2)] 67 (0, 0)) (by (with_reducible repeat (first | refine blk_drewN ?_ _ | refine blk_drew ?_ | refine blk_alloc ?_ _)); exact BK114.out) hg (Kd.R_ne HO_8.out BK114.out (by decide))); have n2_ := Aside0.mk ((by rw [hw]; exact below_set (HB.out) GB17.out : Below w.heap.size w w48)); clear HO_8; clear BK114; clear HB; have HO_8 := n0_; have BK114 := n1_; have HB := n2_; clear n0_ n1_ n2_; clear hg hw hp_; have q49 : (x34_2 : Int) ≤ ((l2.length : Int) : Int) := of_decide_eq_true (by first | (with_reducible assumption) | assumption); obtain ⟨i049, hi049, _, hsz49, _⟩ := info_parts info67; have hroom49 : l2.length ≤ c2 := HC2.out; have hC49 : Kd.C k67 _ (some ad113) l2.length l2 := HR2.out; have hcut49 := cut_to (P := Try.prog) 35 67 .i64 Try.underlying35 hi049 (some ad113) l2.length c2 x34_2 (of_decide_eq_true (by first | (with_reducible assumption) | assumption)) q49 hroom49; have hr49 := Kd.C_take (m := (x34_2 : Int).toNat) hC49 (by omega); have hy49 : y120.length = (x34_2 : Int).toNat := (by rw [Ny120.out, List.length_take]; omega); rw [← Ny120.out] at hr49; rw [← hy49] at hcut49; have HR123 := Aside0.mk hr49; have HC123 := Aside0.mk (show y120.length ≤ c2 from by omega); clear hr49 hC49 hroom49 hi049 hsz49; have KY49 := Aside0.mk hy49; clear hy49; replace q49 := eq_true q49)))
                                        go_loopg [86] kj22 (fun kq v86 w' => ∃ (x86_4 : Int), v86 = .int .i64 x86_4 ∧ Aside0 (spec_deArrivals.l2 kq a0 a1 l2 y119 l2 (l2.length : Int) x34_2 y120 (y120.length : Int) x86_4 ((rd_T67 l2 x34_2).f0) ((rd_T67 l2 x34_2).f1) ((rd_T67 l2 x34_2).f2) = some (r1, r2)) ∧ Aside0 (kq ≤ kj22) ∧ Aside0 (Kd.R (Kd.int .i64) 3 w' w.heap.size (fun _ => True) (.slice (some ⟨go17, 0, none⟩) x8_2.length co9) y119) ∧ Aside0 (w'.heap[gb114]? = some (.cells #[.int .i64 ((rd_T67 l2 x34_2).f0), .int .i64 ((rd_T67 l2 x34_2).f1), .int .i64 ((rd_T67 l2 x34_2).f2)] 67 (0, 0))) ∧ Aside0 (Below w.heap.size w w'))
                                        case atStart => exact ⟨(0), (by first | rfl | (simp; done) | (simp [*]; done)), H', ⟨Nat.le_refl _⟩, ⟨by (try simp only [hl8_1]); (try simp only [hl8_2]); (with_reducible repeat (first | apply Kd.R_alloc | apply Kd.R_drewN | apply Kd.R_drew)); exact HO_8.out⟩, ⟨by (try simp only [hl8_1]); (try simp only [hl8_2]); (with_reducible repeat (first | refine blk_drewN ?_ _ | refine blk_drew ?_ | refine blk_alloc ?_ _)); exact BK114.out⟩, ⟨by repeat (first | (with_reducible first | exact HB.out | apply below_alloc | apply pw_below_drewN | apply below_drew1 | refine below_set ?_ GE114.out) | exact HB.out)⟩⟩
                                        case round =>
                                          clear H'
                                          try clear c1
                                          try clear p1
                                          try clear q1
                                          try clear hx1
                                          try clear qi1
                                          try clear c2
                                          try clear p2
                                          try clear c3
                                          try clear c4
                                          try clear c4b0
                                          try clear c4b1
                                          try clear p4
                                          try clear q4
                                          try clear hx4
                                          try clear hf4
                                          try clear c5
                                          try clear c5b0
                                          try clear c5b1
                                          try clear c6
                                          try clear c6b0
                                          try clear c6b1
                                          try clear p6
                                          try clear c9
                                          try clear c10
                                          try clear c10b0
                                          try clear c11
                                          try clear c11b0
                                          try clear p11
                                          try clear q11
                                          try clear hx11
                                          try clear c12
                                          try clear c12b0
                                          try clear p13
                                          try clear q13
                                          try clear hx13
                                          try clear hf13
                                          try clear c16
                                          try clear c16b0
                                          try clear c16b1
                                          try clear p17
                                          try clear q17
                                          try clear hx17
                                          try clear qi17
                                          try clear hf17
                                          try clear c20
                                          try clear c20b0
                                          try clear c21
                                          try clear c21b0
                                          try clear c22
                                          try clear c22b0
                                          try clear c27
                                          try clear c29
                                          try clear c30
                                          try clear c30b0
                                          try clear c30b1
                                          try clear c33
                                          try clear c34
                                          try clear c34b0
                                          try clear c35
                                          try clear c35b0
                                          try clear c40
                                          try clear c41
                                          try clear c41b0
                                          try clear c42
                                          try clear c42b0
                                          try clear p43
                                          try clear q43
                                          try clear hx43
                                          try clear hf43
                                          try clear c44
                                          try clear c44b0
                                          try clear c44b1
                                          try clear c45
                                          try clear c45b0
                                          try clear c45b1
                                          try clear q49
                                          try clear hcz25_0
                                          try clear hcz25_1
                                          try clear hcz25_2
                                          try clear hcz31_0
                                          try clear hcz31_1
                                          try clear hcz31_2
                                          try clear hcz36_0
                                          try clear hcz36_1
                                          try clear hcz36_2
                                          try clear hcz37_0
                                          try clear hcz37_1
                                          try clear hcz37_2
                                          try clear hcz38_0
                                          try clear hcz38_1
                                          try clear hcz38_2
                                          try clear hcz39_0
                                          try clear hcz39_1
                                          try clear hcz39_2
                                          try clear hcz46_0
                                          try clear hcz46_1
                                          try clear hcz46_2
                                          try clear hfz25_0
                                          try clear hfz25_1
                                          try clear hfz25_2
                                          try clear hfz31_0
                                          try clear hfz31_1
                                          try clear hfz31_2
                                          try clear hfz36_0
                                          try clear hfz36_1
                                          try clear hfz36_2
                                          try clear hfz37_0
                                          try clear hfz37_1
                                          try clear hfz37_2
                                          try clear hfz38_0
                                          try clear hfz38_1
                                          try clear hfz38_2
                                          try clear hfz39_0
                                          try clear hfz39_1
                                          try clear hfz39_2
                                          try clear hfz46_0
                                          try clear hfz46_1
                                          try clear hfz46_2
                                          try clear hx113_0
                                          try clear hx113_1
                                          try clear hx113_2
                                          try clear hx118_0
                                          try clear hx13_0
                                          try clear hx17_0
                                          try clear hx43_0
                                          try clear p1
                                          try clear p11
                                          try clear p113
                                          try clear p118
                                          try clear p13
                                          try clear p17
                                          try clear p2
                                          try clear p43
                                          try clear p6
                                          try clear q1
                                          try clear q11
                                          try clear q113
                                          try clear q118
                                          try clear q13
                                          try clear q17
                                          try clear q43
                                          try clear q49
                                          obtain ⟨x86_4, rfl, HA, HK4, HO_8, BK114, HB⟩ := hrel
                                          have hl8_4 := (Kd.R_reads' HO_8.out).1
                                          rw [hl8_4] at HO_8
                                          (try simp only [hl8_4])
                                          (try simp only [hl8_4] at BK114)
                                          cases gk with
                                          | zero => exact absurd HA.out (by simp [spec_deArrivals.l2])
                                          | succ k4 =>
                                            have H := HA.out
                                            clear HA
                                            simp only [spec_deArrivals.l2] at H
                                            by_cases c50 : x86_4 < (y120.length : Int)
                                            · rw [if_pos c50] at H
                                              have c50b0 : decide (x86_4 < (y120.length : Int)) = true := decide_eq_true c50
                                              (try (have c50b0h := c50b0; simp only [hl8_1, hl8_2, hl8_4] at c50b0h))
                                              clear c50
                                              by_cases c51 : 0 ≤ x86_4
                                              · rw [if_pos c51] at H
                                                have c51b0 : decide (0 ≤ x86_4) = true := decide_eq_true c51
                                                (try (have c51b0h := c51b0; simp only [hl8_1, hl8_2, hl8_4] at c51b0h))
                                                clear c51
                                                by_cases c52 : x86_4 < (y120.length : Int)
                                                · rw [if_pos c52] at H
                                                  have c52b0 : decide (x86_4 < (y120.length : Int)) = true := decide_eq_true c52
                                                  (try (have c52b0h := c52b0; simp only [hl8_1, hl8_2, hl8_4] at c52b0h))
                                                  clear c52
                                                  by_cases c53 : ((rd_T67 y120 x86_4).f0) = ((rd_T67 l2 x34_2).f0)
                                                  · rw [if_pos c53] at H
                                                    have c53b0 : (((rd_T67 y120 x86_4).f0) == ((rd_T67 l2 x34_2).f0)) = true := beq_iff_eq.mpr c53
                                                    (try (have c53b0h := c53b0; simp only [hl8_1, hl8_2, hl8_4] at c53b0h))
                                                    have c53b1 : (((rd_T67 y120 x86_4).f0) != ((rd_T67 l2 x34_2).f0)) = false := bne_eq_false_iff_eq.mpr c53
                                                    (try (have c53b1h := c53b1; simp only [hl8_1, hl8_2, hl8_4] at c53b1h))
                                                    clear c53
                                                    by_cases c54 : ((rd_T67 y120 x86_4).f2) = ((rd_T67 l2 x34_2).f2)
                                                    · rw [if_pos c54] at H
                                                      have c54b0 : (((rd_T67 y120 x86_4).f2) == ((rd_T67 l2 x34_2).f2)) = true := beq_iff_eq.mpr c54
                                                      (try (have c54b0h := c54b0; simp only [hl8_1, hl8_2, hl8_4] at c54b0h))
                                                      have c54b1 : (((rd_T67 y120 x86_4).f2) != ((rd_T67 l2 x34_2).f2)) = false := bne_eq_false_iff_eq.mpr c54
                                                      (try (have c54b1h := c54b1; simp only [hl8_1, hl8_2, hl8_4] at c54b1h))
                                                      clear c54
                                                      simp only [Option.some.injEq, Prod.mk.injEq] at H
                                                      obtain ⟨rfl, rfl⟩ := H
                                                      have p124 : 0 ≤ (x86_4 : Int) := of_decide_eq_true (by first | (with_reducible assumption) | assumption)
                                                      have q124 : x86_4 < (y120.length : Int) := of_decide_eq_true (by first | (with_reducible assumption) | assumption)
                                                      obtain ⟨ad124, e124, hx124_0, hx124_1, hx124_2⟩ := at_T67 HR123.out x86_4 p124 q124
                                                      obtain rfl : ad113 = ad124 := (by injection e124)
                                                      replace hx124_0 := (HB.out.cell (World.block_lt_of_cell? w _ hx124_0)).trans hx124_0
                                                      replace hx124_1 := (HB.out.cell (World.block_lt_of_cell? w _ hx124_1)).trans hx124_1
                                                      replace hx124_2 := (HB.out.cell (World.block_lt_of_cell? w _ hx124_2)).trans hx124_2
                                                      replace p124 := eq_true p124
                                                      replace q124 := eq_true q124
                                                      go_wp2_with (first | ((with_reducible refine gate_dst (N := 13) rfl ?_); refine box_event ?hg (N := 13) ?hd (cs := #[.int .i64 0, .int .i64 0, .int .i64 0]) (t := 67) ?hr ?_; (case hd => rfl); (case hg => rfl); (case hr => first | (go_simp; done) | (go_simp; rfl)); intro gb125 hg w55 hbox hb; have n0_ := Aside0.mk (Kd.R_below (by (with_reducible repeat (first | apply Kd.R_alloc | apply Kd.R_drewN | apply Kd.R_drew)); exact HO_8.out) hb); have n1_ := Aside0.mk (blk_below (g := gb114) (o := .cells #[.int .i64 ((rd_T67 l2 x34_2).f0), .int .i64 ((rd_T67 l2 x34_2).f1), .int .i64 ((rd_T67 l2 x34_2).f2)] 67 (0, 0)) (by (with_reducible repeat (first | refine blk_drewN ?_ _ | refine blk_drew ?_ | refine blk_alloc ?_ _)); exact BK114.out) hb); have n2_ := Aside0.mk (below_step (by repeat (first | (with_reducible first | exact HB.out | apply below_alloc | apply pw_below_drewN | apply below_drew1 | refine below_set ?_ GE114.out) | exact HB.out)) hb); have n3_ := Aside0.mk (hbox); have n4_ := Aside0.mk ((by rw [hg]; exact (below_size (by repeat (first | (with_reducible first | exact HB.out | apply below_alloc | apply pw_below_drewN | apply below_drew1 | refine below_set ?_ GE114.out) | exact HB.out))) : w.heap.size ≤ gb125)); have n5_ := Aside0.mk ((by rw [hg]; exact (below_size (by repeat (first | (with_reducible first | exact HB.out | apply below_alloc | apply pw_below_drewN | apply below_drew1 | refine below_set ?_ GE114.out) | exact HB.out))) : w.heap.size ≤ gb125)); have n6_ := Aside0.mk ((by rw [hg]; exact Nat.ne_of_lt (blk_lt (g := gb114) (o := .cells #[.int .i64 ((rd_T67 l2 x34_2).f0), .int .i64 ((rd_T67 l2 x34_2).f1), .int .i64 ((rd_T67 l2 x34_2).f2)] 67 (0, 0)) (by (with_reducible repeat (first | refine blk_drewN ?_ _ | refine blk_drew ?_ | refine blk_alloc ?_ _)); exact BK114.out)) : gb114 ≠ gb125)); have n7_ := Aside0.mk ((by rw [hg]; exact Nat.ne_of_gt (blk_lt (g := gb114) (o := .cells #[.int .i64 ((rd_T67 l2 x34_2).f0), .int .i64 ((rd_T67 l2 x34_2).f1), .int .i64 ((rd_T67 l2 x34_2).f2)] 67 (0, 0)) (by (with_reducible repeat (first | refine blk_drewN ?_ _ | refine blk_drew ?_ | refine blk_alloc ?_ _)); exact BK114.out)) : gb125 ≠ gb114)); clear HO_8; clear BK114; clear HB; have HO_8 := n0_; have BK114 := n1_; have HB := n2_; have BK125 := n3_; have GW125 := n4_; have GE125 := n5_; have NB114_125 := n6_; have NB125_114 := n7_; clear n0_ n1_ n2_ n3_ n4_ n5_ n6_ n7_; clear hb hbox hg; have hnb56 := NB125_114.out; have hnc56 := NB114_125.out; have hcz57_0 : w55.cell? ⟨gb125, 0, none⟩ = some (.int .i64 0) := (blk_cell BK125.out 0).trans rfl; have hcz57_1 : w55.cell? ⟨gb125, 1, none⟩ = some (.int .i64 0) := (blk_cell BK125.out 1).trans rfl; have hcz57_2 : w55.cell? ⟨gb125, 2, none⟩ = some (.int .i64 0) := (blk_cell BK125.out 2).trans rfl; have hfz57_0 := blk_frozen BK125.out 0; have hfz57_1 := blk_frozen BK125.out 1; have hfz57_2 := blk_frozen BK125.out 2; have hcz58_0 : w55.cell? ⟨gb114, 0, none⟩ = some (.int .i64 ((rd_T67 l2 x34_2).f0)) := (blk_cell BK114.out 0).trans rfl; have hcz58_1 : w55.cell? ⟨gb114, 1, none⟩ = some (.int .i64 ((rd_T67 l2 x34_2).f1)) := (blk_cell BK114.out 1).trans rfl; have hcz58_2 : w55.cell? ⟨gb114, 2, none⟩ = some (.int .i64 ((rd_T67 l2 x34_2).f2)) := (blk_cell BK114.out 2).trans rfl; have hfz58_0 := blk_frozen BK114.out 0; have hfz58_1 := blk_frozen BK114.out 1; have hfz58_2 := blk_frozen BK114.out 2))
                                                      repeat (go_quiet (first | ((with_reducible refine gate_dst (N := 13) rfl ?_); refine box_event ?hg (N := 13) ?hd (cs := #[.int .i64 0, .int .i64 0, .int .i64 0]) (t := 67) ?hr ?_; (case hd => rfl); (case hg => rfl); (case hr => first | (go_simp; done) | (go_simp; rfl)); intro gb125 hg w55 hbox hb; have n0_ := Aside0.mk (Kd.R_below (by (with_reducible repeat (first | apply Kd.R_alloc | apply Kd.R_drewN | apply Kd.R_drew)); exact HO_8.out) hb); have n1_ := Aside0.mk (blk_below (g := gb114) (o := .cells #[.int .i64 ((rd_T67 l2 x34_2).f0), .int .i64 ((rd_T67 l2 x34_2).f1), .int .i64 ((rd_T67 l2 x34_2).f2)] 67 (0, 0)) (by (with_reducible repeat (first | refine blk_drewN ?_ _ | refine blk_drew ?_ | refine blk_alloc ?_ _)); exact BK114.out) hb); have n2_ := Aside0.mk (below_step (by repeat (first | (with_reducible first | exact HB.out | apply below_alloc | apply pw_below_drewN | apply below_drew1 | refine below_set ?_ GE114.out) | exact HB.out)) hb); have n3_ := Aside0.mk (hbox); have n4_ := Aside0.mk ((by rw [hg]; exact (below_size (by repeat (first | (with_reducible first | exact HB.out | apply below_alloc | apply pw_below_drewN | apply below_drew1 | refine below_set ?_ GE114.out) | exact HB.out))) : w.heap.size ≤ gb125)); have n5_ := Aside0.mk ((by rw [hg]; exact (below_size (by repeat (first | (with_reducible first | exact HB.out | apply below_alloc | apply pw_below_drewN | apply below_drew1 | refine below_set ?_ GE114.out) | exact HB.out))) : w.heap.size ≤ gb125)); have n6_ := Aside0.mk ((by rw [hg]; exact Nat.ne_of_lt (blk_lt (g := gb114) (o := .cells #[.int .i64 ((rd_T67 l2 x34_2).f0), .int .i64 ((rd_T67 l2 x34_2).f1), .int .i64 ((rd_T67 l2 x34_2).f2)] 67 (0, 0)) (by (with_reducible repeat (first | refine blk_drewN ?_ _ | refine blk_drew ?_ | refine blk_alloc ?_ _)); exact BK114.out)) : gb114 ≠ gb125)); have n7_ := Aside0.mk ((by rw [hg]; exact Nat.ne_of_gt (blk_lt (g := gb114) (o := .cells #[.int .i64 ((rd_T67 l2 x34_2).f0), .int .i64 ((rd_T67 l2 x34_2).f1), .int .i64 ((rd_T67 l2 x34_2).f2)] 67 (0, 0)) (by (with_reducible repeat (first | refine blk_drewN ?_ _ | refine blk_drew ?_ | refine blk_alloc ?_ _)); exact BK114.out)) : gb125 ≠ gb114)); clear HO_8; clear BK114; clear HB; have HO_8 := n0_; have BK114 := n1_; have HB := n2_; have BK125 := n3_; have GW125 := n4_; have GE125 := n5_; have NB114_125 := n6_; have NB125_114 := n7_; clear n0_ n1_ n2_ n3_ n4_ n5_ n6_ n7_; clear hb hbox hg; have hnb56 := NB125_114.out; have hnc56 := NB114_125.out; have hcz57_0 : w55.cell? ⟨gb125, 0, none⟩ = some (.int .i64 0) := (blk_cell BK125.out 0).trans rfl; have hcz57_1 : w55.cell? ⟨gb125, 1, none⟩ = some (.int .i64 0) := (blk_cell BK125.out 1).trans rfl; have hcz57_2 : w55.cell? ⟨gb125, 2, none⟩ = some (.int .i64 0) := (blk_cell BK125.out 2).trans rfl; have hfz57_0 := blk_frozen BK125.out 0; have hfz57_1 := blk_frozen BK125.out 1; have hfz57_2 := blk_frozen BK125.out 2; have hcz58_0 : w55.cell? ⟨gb114, 0, none⟩ = some (.int .i64 ((rd_T67 l2 x34_2).f0)) := (blk_cell BK114.out 0).trans rfl; have hcz58_1 : w55.cell? ⟨gb114, 1, none⟩ = some (.int .i64 ((rd_T67 l2 x34_2).f1)) := (blk_cell BK114.out 1).trans rfl; have hcz58_2 : w55.cell? ⟨gb114, 2, none⟩ = some (.int .i64 ((rd_T67 l2 x34_2).f2)) := (blk_cell BK114.out 2).trans rfl; have hfz58_0 := blk_frozen BK114.out 0; have hfz58_1 := blk_frozen BK114.out 1; have hfz58_2 := blk_frozen BK114.out 2)); try go_wp2_with (first | ((with_reducible refine gate_dst (N := 13) rfl ?_); refine box_event ?hg (N := 13) ?hd (cs := #[.int .i64 0, .int .i64 0, .int .i64 0]) (t := 67) ?hr ?_; (case hd => rfl); (case hg => rfl); (case hr => first | (go_simp; done) | (go_simp; rfl)); intro gb125 hg w55 hbox hb; have n0_ := Aside0.mk (Kd.R_below (by (with_reducible repeat (first | apply Kd.R_alloc | apply Kd.R_drewN | apply Kd.R_drew)); exact HO_8.out) hb); have n1_ := Aside0.mk (blk_below (g := gb114) (o := .cells #[.int .i64 ((rd_T67 l2 x34_2).f0), .int .i64 ((rd_T67 l2 x34_2).f1), .int .i64 ((rd_T67 l2 x34_2).f2)] 67 (0, 0)) (by (with_reducible repeat (first | refine blk_drewN ?_ _ | refine blk_drew ?_ | refine blk_alloc ?_ _)); exact BK114.out) hb); have n2_ := Aside0.mk (below_step (by repeat (first | (with_reducible first | exact HB.out | apply below_alloc | apply pw_below_drewN | apply below_drew1 | refine below_set ?_ GE114.out) | exact HB.out)) hb); have n3_ := Aside0.mk (hbox); have n4_ := Aside0.mk ((by rw [hg]; exact (below_size (by repeat (first | (with_reducible first | exact HB.out | apply below_alloc | apply pw_below_drewN | apply below_drew1 | refine below_set ?_ GE114.out) | exact HB.out))) : w.heap.size ≤ gb125)); have n5_ := Aside0.mk ((by rw [hg]; exact (below_size (by repeat (first | (with_reducible first | exact HB.out | apply below_alloc | apply pw_below_drewN | apply below_drew1 | refine below_set ?_ GE114.out) | exact HB.out))) : w.heap.size ≤ gb125)); have n6_ := Aside0.mk ((by rw [hg]; exact Nat.ne_of_lt (blk_lt (g := gb114) (o := .cells #[.int .i64 ((rd_T67 l2 x34_2).f0), .int .i64 ((rd_T67 l2 x34_2).f1), .int .i64 ((rd_T67 l2 x34_2).f2)] 67 (0, 0)) (by (with_reducible repeat (first | refine blk_drewN ?_ _ | refine blk_drew ?_ | refine blk_alloc ?_ _)); exact BK114.out)) : gb114 ≠ gb125)); have n7_ := Aside0.mk ((by rw [hg]; exact Nat.ne_of_gt (blk_lt (g := gb114) (o := .cells #[.int .i64 ((rd_T67 l2 x34_2).f0), .int .i64 ((rd_T67 l2 x34_2).f1), .int .i64 ((rd_T67 l2 x34_2).f2)] 67 (0, 0)) (by (with_reducible repeat (first | refine blk_drewN ?_ _ | refine blk_drew ?_ | refine blk_alloc ?_ _)); exact BK114.out)) : gb125 ≠ gb114)); clear HO_8; clear BK114; clear HB; have HO_8 := n0_; have BK114 := n1_; have HB := n2_; have BK125 := n3_; have GW125 := n4_; have GE125 := n5_; have NB114_125 := n6_; have NB125_114 := n7_; clear n0_ n1_ n2_ n3_ n4_ n5_ n6_ n7_; clear hb hbox hg; have hnb56 := NB125_114.out; have hnc56 := NB114_125.out; have hcz57_0 : w55.cell? ⟨gb125, 0, none⟩ = some (.int .i64 0) := (blk_cell BK125.out 0).trans rfl; have hcz57_1 : w55.cell? ⟨gb125, 1, none⟩ = some (.int .i64 0) := (blk_cell BK125.out 1).trans rfl; have hcz57_2 : w55.cell? ⟨gb125, 2, none⟩ = some (.int .i64 0) := (blk_cell BK125.out 2).trans rfl; have hfz57_0 := blk_frozen BK125.out 0; have hfz57_1 := blk_frozen BK125.out 1; have hfz57_2 := blk_frozen BK125.out 2; have hcz58_0 : w55.cell? ⟨gb114, 0, none⟩ = some (.int .i64 ((rd_T67 l2 x34_2).f0)) := (blk_cell BK114.out 0).trans rfl; have hcz58_1 : w55.cell? ⟨gb114, 1, none⟩ = some (.int .i64 ((rd_T67 l2 x34_2).f1)) := (blk_cell BK114.out 1).trans rfl; have hcz58_2 : w55.cell? ⟨gb114, 2, none⟩ = some (.int .i64 ((rd_T67 l2 x34_2).f2)) := (blk_cell BK114.out 2).trans rfl; have hfz58_0 := blk_frozen BK114.out 0; have hfz58_1 := blk_frozen BK114.out 1; have hfz58_2 := blk_frozen BK114.out 2)))
                                                      go_ret2
                                                      exact ⟨_, by first | rfl | (simp [errW_none, errW_some] <;> rfl) | (simp [*, errW_none, errW_some] <;> rfl), by first | exact Kd.R_nil _ _ _ _ _ | exact Kd.N_nil _ _ _ _ _ | exact Kd.V_nil _ _ _ _ _ | exact Kd.Q_nil _ _ _ _ _ | exact Kd.S_nil _ _ _ _ _, by repeat (first | (with_reducible first | exact HB.out | apply below_alloc | apply pw_below_drewN | apply below_drew1 | refine below_set ?_ GE114.out | refine below_set ?_ GE125.out) | exact HB.out)⟩
                                                    · rw [if_neg c54] at H
                                                      have c54b0 : (((rd_T67 y120 x86_4).f2) == ((rd_T67 l2 x34_2).f2)) = false := beq_eq_false_iff_ne.mpr c54
                                                      (try (have c54b0h := c54b0; simp only [hl8_1, hl8_2, hl8_4] at c54b0h))
                                                      have c54b1 : (((rd_T67 y120 x86_4).f2) != ((rd_T67 l2 x34_2).f2)) = true := bne_iff_ne.mpr c54
                                                      (try (have c54b1h := c54b1; simp only [hl8_1, hl8_2, hl8_4] at c54b1h))
                                                      have H' := Aside0.mk H
                                                      clear H
                                                      have p124 : 0 ≤ (x86_4 : Int) := of_decide_eq_true (by first | (with_reducible assumption) | assumption)
                                                      have q124 : x86_4 < (y120.length : Int) := of_decide_eq_true (by first | (with_reducible assumption) | assumption)
                                                      obtain ⟨ad124, e124, hx124_0, hx124_1, hx124_2⟩ := at_T67 HR123.out x86_4 p124 q124
                                                      obtain rfl : ad113 = ad124 := (by injection e124)
                                                      replace hx124_0 := (HB.out.cell (World.block_lt_of_cell? w _ hx124_0)).trans hx124_0
                                                      replace hx124_1 := (HB.out.cell (World.block_lt_of_cell? w _ hx124_1)).trans hx124_1
                                                      replace hx124_2 := (HB.out.cell (World.block_lt_of_cell? w _ hx124_2)).trans hx124_2
                                                      replace p124 := eq_true p124
                                                      replace q124 := eq_true q124
                                                      go_wp2_with (first | ((with_reducible refine gate_dst (N := 13) rfl ?_); refine box_event ?hg (N := 13) ?hd (cs := #[.int .i64 0, .int .i64 0, .int .i64 0]) (t := 67) ?hr ?_; (case hd => rfl); (case hg => rfl); (case hr => first | (go_simp; done) | (go_simp; rfl)); intro gb125 hg w59 hbox hb; have n0_ := Aside0.mk (Kd.R_below (by (with_reducible repeat (first | apply Kd.R_alloc | apply Kd.R_drewN | apply Kd.R_drew)); exact HO_8.out) hb); have n1_ := Aside0.mk (blk_below (g := gb114) (o := .cells #[.int .i64 ((rd_T67 l2 x34_2).f0), .int .i64 ((rd_T67 l2 x34_2).f1), .int .i64 ((rd_T67 l2 x34_2).f2)] 67 (0, 0)) (by (with_reducible repeat (first | refine blk_drewN ?_ _ | refine blk_drew ?_ | refine blk_alloc ?_ _)); exact BK114.out) hb); have n2_ := Aside0.mk (below_step (by repeat (first | (with_reducible first | exact HB.out | apply below_alloc | apply pw_below_drewN | apply below_drew1 | refine below_set ?_ GE114.out) | exact HB.out)) hb); have n3_ := Aside0.mk (hbox); have n4_ := Aside0.mk ((by rw [hg]; exact (below_size (by repeat (first | (with_reducible first | exact HB.out | apply below_alloc | apply pw_below_drewN | apply below_drew1 | refine below_set ?_ GE114.out) | exact HB.out))) : w.heap.size ≤ gb125)); have n5_ := Aside0.mk ((by rw [hg]; exact (below_size (by repeat (first | (with_reducible first | exact HB.out | apply below_alloc | apply pw_below_drewN | apply below_drew1 | refine below_set ?_ GE114.out) | exact HB.out))) : w.heap.size ≤ gb125)); have n6_ := Aside0.mk ((by rw [hg]; exact Nat.ne_of_lt (blk_lt (g := gb114) (o := .cells #[.int .i64 ((rd_T67 l2 x34_2).f0), .int .i64 ((rd_T67 l2 x34_2).f1), .int .i64 ((rd_T67 l2 x34_2).f2)] 67 (0, 0)) (by (with_reducible repeat (first | refine blk_drewN ?_ _ | refine blk_drew ?_ | refine blk_alloc ?_ _)); exact BK114.out)) : gb114 ≠ gb125)); have n7_ := Aside0.mk ((by rw [hg]; exact Nat.ne_of_gt (blk_lt (g := gb114) (o := .cells #[.int .i64 ((rd_T67 l2 x34_2).f0), .int .i64 ((rd_T67 l2 x34_2).f1), .int .i64 ((rd_T67 l2 x34_2).f2)] 67 (0, 0)) (by (with_reducible repeat (first | refine blk_drewN ?_ _ | refine blk_drew ?_ | refine blk_alloc ?_ _)); exact BK114.out)) : gb125 ≠ gb114)); clear HO_8; clear BK114; clear HB; have HO_8 := n0_; have BK114 := n1_; have HB := n2_; have BK125 := n3_; have GW125 := n4_; have GE125 := n5_; have NB114_125 := n6_; have NB125_114 := n7_; clear n0_ n1_ n2_ n3_ n4_ n5_ n6_ n7_; clear hb hbox hg; have hnb60 := NB125_114.out; have hnc60 := NB114_125.out; have hcz61_0 : w59.cell? ⟨gb125, 0, none⟩ = some (.int .i64 0) := (blk_cell BK125.out 0).trans rfl; have hcz61_1 : w59.cell? ⟨gb125, 1, none⟩ = some (.int .i64 0) := (blk_cell BK125.out 1).trans rfl; have hcz61_2 : w59.cell? ⟨gb125, 2, none⟩ = some (.int .i64 0) := (blk_cell BK125.out 2).trans rfl; have hfz61_0 := blk_frozen BK125.out 0; have hfz61_1 := blk_frozen BK125.out 1; have hfz61_2 := blk_frozen BK125.out 2; have hcz62_0 : w59.cell? ⟨gb114, 0, none⟩ = some (.int .i64 ((rd_T67 l2 x34_2).f0)) := (blk_cell BK114.out 0).trans rfl; have hcz62_1 : w59.cell? ⟨gb114, 1, none⟩ = some (.int .i64 ((rd_T67 l2 x34_2).f1)) := (blk_cell BK114.out 1).trans rfl; have hcz62_2 : w59.cell? ⟨gb114, 2, none⟩ = some (.int .i64 ((rd_T67 l2 x34_2).f2)) := (blk_cell BK114.out 2).trans rfl; have hfz62_0 := blk_frozen BK114.out 0; have hfz62_1 := blk_frozen BK114.out 1; have hfz62_2 := blk_frozen BK114.out 2))
                                                      repeat (go_quiet (first | ((with_reducible refine gate_dst (N := 13) rfl ?_); refine box_event ?hg (N := 13) ?hd (cs := #[.int .i64 0, .int .i64 0, .int .i64 0]) (t := 67) ?hr ?_; (case hd => rfl); (case hg => rfl); (case hr => first | (go_simp; done) | (go_simp; rfl)); intro gb125 hg w59 hbox hb; have n0_ := Aside0.mk (Kd.R_below (by (with_reducible repeat (first | apply Kd.R_alloc | apply Kd.R_drewN | apply Kd.R_drew)); exact HO_8.out) hb); have n1_ := Aside0.mk (blk_below (g := gb114) (o := .cells #[.int .i64 ((rd_T67 l2 x34_2).f0), .int .i64 ((rd_T67 l2 x34_2).f1), .int .i64 ((rd_T67 l2 x34_2).f2)] 67 (0, 0)) (by (with_reducible repeat (first | refine blk_drewN ?_ _ | refine blk_drew ?_ | refine blk_alloc ?_ _)); exact BK114.out) hb); have n2_ := Aside0.mk (below_step (by repeat (first | (with_reducible first | exact HB.out | apply below_alloc | apply pw_below_drewN | apply below_drew1 | refine below_set ?_ GE114.out) | exact HB.out)) hb); have n3_ := Aside0.mk (hbox); have n4_ := Aside0.mk ((by rw [hg]; exact (below_size (by repeat (first | (with_reducible first | exact HB.out | apply below_alloc | apply pw_below_drewN | apply below_drew1 | refine below_set ?_ GE114.out) | exact HB.out))) : w.heap.size ≤ gb125)); have n5_ := Aside0.mk ((by rw [hg]; exact (below_size (by repeat (first | (with_reducible first | exact HB.out | apply below_alloc | apply pw_below_drewN | apply below_drew1 | refine below_set ?_ GE114.out) | exact HB.out))) : w.heap.size ≤ gb125)); have n6_ := Aside0.mk ((by rw [hg]; exact Nat.ne_of_lt (blk_lt (g := gb114) (o := .cells #[.int .i64 ((rd_T67 l2 x34_2).f0), .int .i64 ((rd_T67 l2 x34_2).f1), .int .i64 ((rd_T67 l2 x34_2).f2)] 67 (0, 0)) (by (with_reducible repeat (first | refine blk_drewN ?_ _ | refine blk_drew ?_ | refine blk_alloc ?_ _)); exact BK114.out)) : gb114 ≠ gb125)); have n7_ := Aside0.mk ((by rw [hg]; exact Nat.ne_of_gt (blk_lt (g := gb114) (o := .cells #[.int .i64 ((rd_T67 l2 x34_2).f0), .int .i64 ((rd_T67 l2 x34_2).f1), .int .i64 ((rd_T67 l2 x34_2).f2)] 67 (0, 0)) (by (with_reducible repeat (first | refine blk_drewN ?_ _ | refine blk_drew ?_ | refine blk_alloc ?_ _)); exact BK114.out)) : gb125 ≠ gb114)); clear HO_8; clear BK114; clear HB; have HO_8 := n0_; have BK114 := n1_; have HB := n2_; have BK125 := n3_; have GW125 := n4_; have GE125 := n5_; have NB114_125 := n6_; have NB125_114 := n7_; clear n0_ n1_ n2_ n3_ n4_ n5_ n6_ n7_; clear hb hbox hg; have hnb60 := NB125_114.out; have hnc60 := NB114_125.out; have hcz61_0 : w59.cell? ⟨gb125, 0, none⟩ = some (.int .i64 0) := (blk_cell BK125.out 0).trans rfl; have hcz61_1 : w59.cell? ⟨gb125, 1, none⟩ = some (.int .i64 0) := (blk_cell BK125.out 1).trans rfl; have hcz61_2 : w59.cell? ⟨gb125, 2, none⟩ = some (.int .i64 0) := (blk_cell BK125.out 2).trans rfl; have hfz61_0 := blk_frozen BK125.out 0; have hfz61_1 := blk_frozen BK125.out 1; have hfz61_2 := blk_frozen BK125.out 2; have hcz62_0 : w59.cell? ⟨gb114, 0, none⟩ = some (.int .i64 ((rd_T67 l2 x34_2).f0)) := (blk_cell BK114.out 0).trans rfl; have hcz62_1 : w59.cell? ⟨gb114, 1, none⟩ = some (.int .i64 ((rd_T67 l2 x34_2).f1)) := (blk_cell BK114.out 1).trans rfl; have hcz62_2 : w59.cell? ⟨gb114, 2, none⟩ = some (.int .i64 ((rd_T67 l2 x34_2).f2)) := (blk_cell BK114.out 2).trans rfl; have hfz62_0 := blk_frozen BK114.out 0; have hfz62_1 := blk_frozen BK114.out 1; have hfz62_2 := blk_frozen BK114.out 2)); try go_wp2_with (first | ((with_reducible refine gate_dst (N := 13) rfl ?_); refine box_event ?hg (N := 13) ?hd (cs := #[.int .i64 0, .int .i64 0, .int .i64 0]) (t := 67) ?hr ?_; (case hd => rfl); (case hg => rfl); (case hr => first | (go_simp; done) | (go_simp; rfl)); intro gb125 hg w59 hbox hb; have n0_ := Aside0.mk (Kd.R_below (by (with_reducible repeat (first | apply Kd.R_alloc | apply Kd.R_drewN | apply Kd.R_drew)); exact HO_8.out) hb); have n1_ := Aside0.mk (blk_below (g := gb114) (o := .cells #[.int .i64 ((rd_T67 l2 x34_2).f0), .int .i64 ((rd_T67 l2 x34_2).f1), .int .i64 ((rd_T67 l2 x34_2).f2)] 67 (0, 0)) (by (with_reducible repeat (first | refine blk_drewN ?_ _ | refine blk_drew ?_ | refine blk_alloc ?_ _)); exact BK114.out) hb); have n2_ := Aside0.mk (below_step (by repeat (first | (with_reducible first | exact HB.out | apply below_alloc | apply pw_below_drewN | apply below_drew1 | refine below_set ?_ GE114.out) | exact HB.out)) hb); have n3_ := Aside0.mk (hbox); have n4_ := Aside0.mk ((by rw [hg]; exact (below_size (by repeat (first | (with_reducible first | exact HB.out | apply below_alloc | apply pw_below_drewN | apply below_drew1 | refine below_set ?_ GE114.out) | exact HB.out))) : w.heap.size ≤ gb125)); have n5_ := Aside0.mk ((by rw [hg]; exact (below_size (by repeat (first | (with_reducible first | exact HB.out | apply below_alloc | apply pw_below_drewN | apply below_drew1 | refine below_set ?_ GE114.out) | exact HB.out))) : w.heap.size ≤ gb125)); have n6_ := Aside0.mk ((by rw [hg]; exact Nat.ne_of_lt (blk_lt (g := gb114) (o := .cells #[.int .i64 ((rd_T67 l2 x34_2).f0), .int .i64 ((rd_T67 l2 x34_2).f1), .int .i64 ((rd_T67 l2 x34_2).f2)] 67 (0, 0)) (by (with_reducible repeat (first | refine blk_drewN ?_ _ | refine blk_drew ?_ | refine blk_alloc ?_ _)); exact BK114.out)) : gb114 ≠ gb125)); have n7_ := Aside0.mk ((by rw [hg]; exact Nat.ne_of_gt (blk_lt (g := gb114) (o := .cells #[.int .i64 ((rd_T67 l2 x34_2).f0), .int .i64 ((rd_T67 l2 x34_2).f1), .int .i64 ((rd_T67 l2 x34_2).f2)] 67 (0, 0)) (by (with_reducible repeat (first | refine blk_drewN ?_ _ | refine blk_drew ?_ | refine blk_alloc ?_ _)); exact BK114.out)) : gb125 ≠ gb114)); clear HO_8; clear BK114; clear HB; have HO_8 := n0_; have BK114 := n1_; have HB := n2_; have BK125 := n3_; have GW125 := n4_; have GE125 := n5_; have NB114_125 := n6_; have NB125_114 := n7_; clear n0_ n1_ n2_ n3_ n4_ n5_ n6_ n7_; clear hb hbox hg; have hnb60 := NB125_114.out; have hnc60 := NB114_125.out; have hcz61_0 : w59.cell? ⟨gb125, 0, none⟩ = some (.int .i64 0) := (blk_cell BK125.out 0).trans rfl; have hcz61_1 : w59.cell? ⟨gb125, 1, none⟩ = some (.int .i64 0) := (blk_cell BK125.out 1).trans rfl; have hcz61_2 : w59.cell? ⟨gb125, 2, none⟩ = some (.int .i64 0) := (blk_cell BK125.out 2).trans rfl; have hfz61_0 := blk_frozen BK125.out 0; have hfz61_1 := blk_frozen BK125.out 1; have hfz61_2 := blk_frozen BK125.out 2; have hcz62_0 : w59.cell? ⟨gb114, 0, none⟩ = some (.int .i64 ((rd_T67 l2 x34_2).f0)) := (blk_cell BK114.out 0).trans rfl; have hcz62_1 : w59.cell? ⟨gb114, 1, none⟩ = some (.int .i64 ((rd_T67 l2 x34_2).f1)) := (blk_cell BK114.out 1).trans rfl; have hcz62_2 : w59.cell? ⟨gb114, 2, none⟩ = some (.int .i64 ((rd_T67 l2 x34_2).f2)) := (blk_cell BK114.out 2).trans rfl; have hfz62_0 := blk_frozen BK114.out 0; have hfz62_1 := blk_frozen BK114.out 1; have hfz62_2 := blk_frozen BK114.out 2)))
                                                      (try simp only [← hl8_4])
                                                      go_roundg k4
                                                      case measure => have := HK1.out; have := HK2.out; have := HJ22.out; have := HK4.out; omega
                                                      case rel => exact ⟨(wrap64 (x86_4 + 1)), (by first | rfl | (simp; done) | (simp [*]; done)), H', ⟨by have := HK1.out; have := HK2.out; have := HJ22.out; have := HK4.out; omega⟩, ⟨by (try simp only [hl8_1]); (try simp only [hl8_2]); (try simp only [hl8_4]); (with_reducible repeat (first | apply Kd.R_alloc | apply Kd.R_drewN | apply Kd.R_drew)); exact Kd.R_mono (Kd.R_far (p := ⟨gb125, 2, none⟩) (Kd.R_far (p := ⟨gb125, 1, none⟩) (Kd.R_far (p := ⟨gb125, 0, none⟩) (Kd.R_types HO_8.out BK125.out (by decide)) (fun _ hk => hk.2) (.int .i64 ((rd_T67 y120 x86_4).f0))) (fun _ hk => hk.2) (.int .i64 ((rd_T67 y120 x86_4).f1))) (fun _ hk => hk.2) (.int .i64 ((rd_T67 y120 x86_4).f2))) (fun _ hk => trivial)⟩, ⟨by (try simp only [hl8_1]); (try simp only [hl8_2]); (try simp only [hl8_4]); (with_reducible repeat (first | refine blk_drewN ?_ _ | refine blk_drew ?_ | refine blk_alloc ?_ _)); refine blk_far ?_ NB114_125.out _; (with_reducible repeat (first | refine blk_drewN ?_ _ | refine blk_drew ?_ | refine blk_alloc ?_ _)); refine blk_far ?_ NB114_125.out _; (with_reducible repeat (first | refine blk_drewN ?_ _ | refine blk_drew ?_ | refine blk_alloc ?_ _)); refine blk_far ?_ NB114_125.out _; (with_reducible repeat (first | refine blk_drewN ?_ _ | refine blk_drew ?_ | refine blk_alloc ?_ _)); exact BK114.out⟩, ⟨by repeat (first | (with_reducible first | exact HB.out | apply below_alloc | apply pw_below_drewN | apply below_drew1 | refine below_set ?_ GE114.out | refine below_set ?_ GE125.out) | exact HB.out)⟩⟩
                                                  · rw [if_neg c53] at H
                                                    have c53b0 : (((rd_T67 y120 x86_4).f0) == ((rd_T67 l2 x34_2).f0)) = false := beq_eq_false_iff_ne.mpr c53
                                                    (try (have c53b0h := c53b0; simp only [hl8_1, hl8_2, hl8_4] at c53b0h))
                                                    have c53b1 : (((rd_T67 y120 x86_4).f0) != ((rd_T67 l2 x34_2).f0)) = true := bne_iff_ne.mpr c53
                                                    (try (have c53b1h := c53b1; simp only [hl8_1, hl8_2, hl8_4] at c53b1h))
                                                    have H' := Aside0.mk H
                                                    clear H
                                                    have p124 : 0 ≤ (x86_4 : Int) := of_decide_eq_true (by first | (with_reducible assumption) | assumption)
                                                    have q124 : x86_4 < (y120.length : Int) := of_decide_eq_true (by first | (with_reducible assumption) | assumption)
                                                    obtain ⟨ad124, e124, hx124_0, hx124_1, hx124_2⟩ := at_T67 HR123.out x86_4 p124 q124
                                                    obtain rfl : ad113 = ad124 := (by injection e124)
                                                    replace hx124_0 := (HB.out.cell (World.block_lt_of_cell? w _ hx124_0)).trans hx124_0
                                                    replace hx124_1 := (HB.out.cell (World.block_lt_of_cell? w _ hx124_1)).trans hx124_1
                                                    replace hx124_2 := (HB.out.cell (World.block_lt_of_cell? w _ hx124_2)).trans hx124_2
                                                    replace p124 := eq_true p124
                                                    replace q124 := eq_true q124
                                                    go_wp2_with (first | ((with_reducible refine gate_dst (N := 13) rfl ?_); refine box_event ?hg (N := 13) ?hd (cs := #[.int .i64 0, .int .i64 0, .int .i64 0]) (t := 67) ?hr ?_; (case hd => rfl); (case hg => rfl); (case hr => first | (go_simp; done) | (go_simp; rfl)); intro gb125 hg w63 hbox hb; have n0_ := Aside0.mk (Kd.R_below (by (with_reducible repeat (first | apply Kd.R_alloc | apply Kd.R_drewN | apply Kd.R_drew)); exact HO_8.out) hb); have n1_ := Aside0.mk (blk_below (g := gb114) (o := .cells #[.int .i64 ((rd_T67 l2 x34_2).f0), .int .i64 ((rd_T67 l2 x34_2).f1), .int .i64 ((rd_T67 l2 x34_2).f2)] 67 (0, 0)) (by (with_reducible repeat (first | refine blk_drewN ?_ _ | refine blk_drew ?_ | refine blk_alloc ?_ _)); exact BK114.out) hb); have n2_ := Aside0.mk (below_step (by repeat (first | (with_reducible first | exact HB.out | apply below_alloc | apply pw_below_drewN | apply below_drew1 | refine below_set ?_ GE114.out) | exact HB.out)) hb); have n3_ := Aside0.mk (hbox); have n4_ := Aside0.mk ((by rw [hg]; exact (below_size (by repeat (first | (with_reducible first | exact HB.out | apply below_alloc | apply pw_below_drewN | apply below_drew1 | refine below_set ?_ GE114.out) | exact HB.out))) : w.heap.size ≤ gb125)); have n5_ := Aside0.mk ((by rw [hg]; exact (below_size (by repeat (first | (with_reducible first | exact HB.out | apply below_alloc | apply pw_below_drewN | apply below_drew1 | refine below_set ?_ GE114.out) | exact HB.out))) : w.heap.size ≤ gb125)); have n6_ := Aside0.mk ((by rw [hg]; exact Nat.ne_of_lt (blk_lt (g := gb114) (o := .cells #[.int .i64 ((rd_T67 l2 x34_2).f0), .int .i64 ((rd_T67 l2 x34_2).f1), .int .i64 ((rd_T67 l2 x34_2).f2)] 67 (0, 0)) (by (with_reducible repeat (first | refine blk_drewN ?_ _ | refine blk_drew ?_ | refine blk_alloc ?_ _)); exact BK114.out)) : gb114 ≠ gb125)); have n7_ := Aside0.mk ((by rw [hg]; exact Nat.ne_of_gt (blk_lt (g := gb114) (o := .cells #[.int .i64 ((rd_T67 l2 x34_2).f0), .int .i64 ((rd_T67 l2 x34_2).f1), .int .i64 ((rd_T67 l2 x34_2).f2)] 67 (0, 0)) (by (with_reducible repeat (first | refine blk_drewN ?_ _ | refine blk_drew ?_ | refine blk_alloc ?_ _)); exact BK114.out)) : gb125 ≠ gb114)); clear HO_8; clear BK114; clear HB; have HO_8 := n0_; have BK114 := n1_; have HB := n2_; have BK125 := n3_; have GW125 := n4_; have GE125 := n5_; have NB114_125 := n6_; have NB125_114 := n7_; clear n0_ n1_ n2_ n3_ n4_ n5_ n6_ n7_; clear hb hbox hg; have hnb64 := NB125_114.out; have hnc64 := NB114_125.out; have hcz65_0 : w63.cell? ⟨gb125, 0, none⟩ = some (.int .i64 0) := (blk_cell BK125.out 0).trans rfl; have hcz65_1 : w63.cell? ⟨gb125, 1, none⟩ = some (.int .i64 0) := (blk_cell BK125.out 1).trans rfl; have hcz65_2 : w63.cell? ⟨gb125, 2, none⟩ = some (.int .i64 0) := (blk_cell BK125.out 2).trans rfl; have hfz65_0 := blk_frozen BK125.out 0; have hfz65_1 := blk_frozen BK125.out 1; have hfz65_2 := blk_frozen BK125.out 2; have hcz66_0 : w63.cell? ⟨gb114, 0, none⟩ = some (.int .i64 ((rd_T67 l2 x34_2).f0)) := (blk_cell BK114.out 0).trans rfl; have hcz66_1 : w63.cell? ⟨gb114, 1, none⟩ = some (.int .i64 ((rd_T67 l2 x34_2).f1)) := (blk_cell BK114.out 1).trans rfl; have hcz66_2 : w63.cell? ⟨gb114, 2, none⟩ = some (.int .i64 ((rd_T67 l2 x34_2).f2)) := (blk_cell BK114.out 2).trans rfl; have hfz66_0 := blk_frozen BK114.out 0; have hfz66_1 := blk_frozen BK114.out 1; have hfz66_2 := blk_frozen BK114.out 2))
                                                    repeat (go_quiet (first | ((with_reducible refine gate_dst (N := 13) rfl ?_); refine box_event ?hg (N := 13) ?hd (cs := #[.int .i64 0, .int .i64 0, .int .i64 0]) (t := 67) ?hr ?_; (case hd => rfl); (case hg => rfl); (case hr => first | (go_simp; done) | (go_simp; rfl)); intro gb125 hg w63 hbox hb; have n0_ := Aside0.mk (Kd.R_below (by (with_reducible repeat (first | apply Kd.R_alloc | apply Kd.R_drewN | apply Kd.R_drew)); exact HO_8.out) hb); have n1_ := Aside0.mk (blk_below (g := gb114) (o := .cells #[.int .i64 ((rd_T67 l2 x34_2).f0), .int .i64 ((rd_T67 l2 x34_2).f1), .int .i64 ((rd_T67 l2 x34_2).f2)] 67 (0, 0)) (by (with_reducible repeat (first | refine blk_drewN ?_ _ | refine blk_drew ?_ | refine blk_alloc ?_ _)); exact BK114.out) hb); have n2_ := Aside0.mk (below_step (by repeat (first | (with_reducible first | exact HB.out | apply below_alloc | apply pw_below_drewN | apply below_drew1 | refine below_set ?_ GE114.out) | exact HB.out)) hb); have n3_ := Aside0.mk (hbox); have n4_ := Aside0.mk ((by rw [hg]; exact (below_size (by repeat (first | (with_reducible first | exact HB.out | apply below_alloc | apply pw_below_drewN | apply below_drew1 | refine below_set ?_ GE114.out) | exact HB.out))) : w.heap.size ≤ gb125)); have n5_ := Aside0.mk ((by rw [hg]; exact (below_size (by repeat (first | (with_reducible first | exact HB.out | apply below_alloc | apply pw_below_drewN | apply below_drew1 | refine below_set ?_ GE114.out) | exact HB.out))) : w.heap.size ≤ gb125)); have n6_ := Aside0.mk ((by rw [hg]; exact Nat.ne_of_lt (blk_lt (g := gb114) (o := .cells #[.int .i64 ((rd_T67 l2 x34_2).f0), .int .i64 ((rd_T67 l2 x34_2).f1), .int .i64 ((rd_T67 l2 x34_2).f2)] 67 (0, 0)) (by (with_reducible repeat (first | refine blk_drewN ?_ _ | refine blk_drew ?_ | refine blk_alloc ?_ _)); exact BK114.out)) : gb114 ≠ gb125)); have n7_ := Aside0.mk ((by rw [hg]; exact Nat.ne_of_gt (blk_lt (g := gb114) (o := .cells #[.int .i64 ((rd_T67 l2 x34_2).f0), .int .i64 ((rd_T67 l2 x34_2).f1), .int .i64 ((rd_T67 l2 x34_2).f2)] 67 (0, 0)) (by (with_reducible repeat (first | refine blk_drewN ?_ _ | refine blk_drew ?_ | refine blk_alloc ?_ _)); exact BK114.out)) : gb125 ≠ gb114)); clear HO_8; clear BK114; clear HB; have HO_8 := n0_; have BK114 := n1_; have HB := n2_; have BK125 := n3_; have GW125 := n4_; have GE125 := n5_; have NB114_125 := n6_; have NB125_114 := n7_; clear n0_ n1_ n2_ n3_ n4_ n5_ n6_ n7_; clear hb hbox hg; have hnb64 := NB125_114.out; have hnc64 := NB114_125.out; have hcz65_0 : w63.cell? ⟨gb125, 0, none⟩ = some (.int .i64 0) := (blk_cell BK125.out 0).trans rfl; have hcz65_1 : w63.cell? ⟨gb125, 1, none⟩ = some (.int .i64 0) := (blk_cell BK125.out 1).trans rfl; have hcz65_2 : w63.cell? ⟨gb125, 2, none⟩ = some (.int .i64 0) := (blk_cell BK125.out 2).trans rfl; have hfz65_0 := blk_frozen BK125.out 0; have hfz65_1 := blk_frozen BK125.out 1; have hfz65_2 := blk_frozen BK125.out 2; have hcz66_0 : w63.cell? ⟨gb114, 0, none⟩ = some (.int .i64 ((rd_T67 l2 x34_2).f0)) := (blk_cell BK114.out 0).trans rfl; have hcz66_1 : w63.cell? ⟨gb114, 1, none⟩ = some (.int .i64 ((rd_T67 l2 x34_2).f1)) := (blk_cell BK114.out 1).trans rfl; have hcz66_2 : w63.cell? ⟨gb114, 2, none⟩ = some (.int .i64 ((rd_T67 l2 x34_2).f2)) := (blk_cell BK114.out 2).trans rfl; have hfz66_0 := blk_frozen BK114.out 0; have hfz66_1 := blk_frozen BK114.out 1; have hfz66_2 := blk_frozen BK114.out 2)); try go_wp2_with (first | ((with_reducible refine gate_dst (N := 13) rfl ?_); refine box_event ?hg (N := 13) ?hd (cs := #[.int .i64 0, .int .i64 0, .int .i64 0]) (t := 67) ?hr ?_; (case hd => rfl); (case hg => rfl); (case hr => first | (go_simp; done) | (go_simp; rfl)); intro gb125 hg w63 hbox hb; have n0_ := Aside0.mk (Kd.R_below (by (with_reducible repeat (first | apply Kd.R_alloc | apply Kd.R_drewN | apply Kd.R_drew)); exact HO_8.out) hb); have n1_ := Aside0.mk (blk_below (g := gb114) (o := .cells #[.int .i64 ((rd_T67 l2 x34_2).f0), .int .i64 ((rd_T67 l2 x34_2).f1), .int .i64 ((rd_T67 l2 x34_2).f2)] 67 (0, 0)) (by (with_reducible repeat (first | refine blk_drewN ?_ _ | refine blk_drew ?_ | refine blk_alloc ?_ _)); exact BK114.out) hb); have n2_ := Aside0.mk (below_step (by repeat (first | (with_reducible first | exact HB.out | apply below_alloc | apply pw_below_drewN | apply below_drew1 | refine below_set ?_ GE114.out) | exact HB.out)) hb); have n3_ := Aside0.mk (hbox); have n4_ := Aside0.mk ((by rw [hg]; exact (below_size (by repeat (first | (with_reducible first | exact HB.out | apply below_alloc | apply pw_below_drewN | apply below_drew1 | refine below_set ?_ GE114.out) | exact HB.out))) : w.heap.size ≤ gb125)); have n5_ := Aside0.mk ((by rw [hg]; exact (below_size (by repeat (first | (with_reducible first | exact HB.out | apply below_alloc | apply pw_below_drewN | apply below_drew1 | refine below_set ?_ GE114.out) | exact HB.out))) : w.heap.size ≤ gb125)); have n6_ := Aside0.mk ((by rw [hg]; exact Nat.ne_of_lt (blk_lt (g := gb114) (o := .cells #[.int .i64 ((rd_T67 l2 x34_2).f0), .int .i64 ((rd_T67 l2 x34_2).f1), .int .i64 ((rd_T67 l2 x34_2).f2)] 67 (0, 0)) (by (with_reducible repeat (first | refine blk_drewN ?_ _ | refine blk_drew ?_ | refine blk_alloc ?_ _)); exact BK114.out)) : gb114 ≠ gb125)); have n7_ := Aside0.mk ((by rw [hg]; exact Nat.ne_of_gt (blk_lt (g := gb114) (o := .cells #[.int .i64 ((rd_T67 l2 x34_2).f0), .int .i64 ((rd_T67 l2 x34_2).f1), .int .i64 ((rd_T67 l2 x34_2).f2)] 67 (0, 0)) (by (with_reducible repeat (first | refine blk_drewN ?_ _ | refine blk_drew ?_ | refine blk_alloc ?_ _)); exact BK114.out)) : gb125 ≠ gb114)); clear HO_8; clear BK114; clear HB; have HO_8 := n0_; have BK114 := n1_; have HB := n2_; have BK125 := n3_; have GW125 := n4_; have GE125 := n5_; have NB114_125 := n6_; have NB125_114 := n7_; clear n0_ n1_ n2_ n3_ n4_ n5_ n6_ n7_; clear hb hbox hg; have hnb64 := NB125_114.out; have hnc64 := NB114_125.out; have hcz65_0 : w63.cell? ⟨gb125, 0, none⟩ = some (.int .i64 0) := (blk_cell BK125.out 0).trans rfl; have hcz65_1 : w63.cell? ⟨gb125, 1, none⟩ = some (.int .i64 0) := (blk_cell BK125.out 1).trans rfl; have hcz65_2 : w63.cell? ⟨gb125, 2, none⟩ = some (.int .i64 0) := (blk_cell BK125.out 2).trans rfl; have hfz65_0 := blk_frozen BK125.out 0; have hfz65_1 := blk_frozen BK125.out 1; have hfz65_2 := blk_frozen BK125.out 2; have hcz66_0 : w63.cell? ⟨gb114, 0, none⟩ = some (.int .i64 ((rd_T67 l2 x34_2).f0)) := (blk_cell BK114.out 0).trans rfl; have hcz66_1 : w63.cell? ⟨gb114, 1, none⟩ = some (.int .i64 ((rd_T67 l2 x34_2).f1)) := (blk_cell BK114.out 1).trans rfl; have hcz66_2 : w63.cell? ⟨gb114, 2, none⟩ = some (.int .i64 ((rd_T67 l2 x34_2).f2)) := (blk_cell BK114.out 2).trans rfl; have hfz66_0 := blk_frozen BK114.out 0; have hfz66_1 := blk_frozen BK114.out 1; have hfz66_2 := blk_frozen BK114.out 2)))
                                                    (try simp only [← hl8_4])
                                                    go_roundg k4
                                                    case measure => have := HK1.out; have := HK2.out; have := HJ22.out; have := HK4.out; omega
                                                    case rel => exact ⟨(wrap64 (x86_4 + 1)), (by first | rfl | (simp; done) | (simp [*]; done)), H', ⟨by have := HK1.out; have := HK2.out; have := HJ22.out; have := HK4.out; omega⟩, ⟨by (try simp only [hl8_1]); (try simp only [hl8_2]); (try simp only [hl8_4]); (with_reducible repeat (first | apply Kd.R_alloc | apply Kd.R_drewN | apply Kd.R_drew)); exact Kd.R_mono (Kd.R_far (p := ⟨gb125, 2, none⟩) (Kd.R_far (p := ⟨gb125, 1, none⟩) (Kd.R_far (p := ⟨gb125, 0, none⟩) (Kd.R_types HO_8.out BK125.out (by decide)) (fun _ hk => hk.2) (.int .i64 ((rd_T67 y120 x86_4).f0))) (fun _ hk => hk.2) (.int .i64 ((rd_T67 y120 x86_4).f1))) (fun _ hk => hk.2) (.int .i64 ((rd_T67 y120 x86_4).f2))) (fun _ hk => trivial)⟩, ⟨by (try simp only [hl8_1]); (try simp only [hl8_2]); (try simp only [hl8_4]); (with_reducible repeat (first | refine blk_drewN ?_ _ | refine blk_drew ?_ | refine blk_alloc ?_ _)); refine blk_far ?_ NB114_125.out _; (with_reducible repeat (first | refine blk_drewN ?_ _ | refine blk_drew ?_ | refine blk_alloc ?_ _)); refine blk_far ?_ NB114_125.out _; (with_reducible repeat (first | refine blk_drewN ?_ _ | refine blk_drew ?_ | refine blk_alloc ?_ _)); refine blk_far ?_ NB114_125.out _; (with_reducible repeat (first | refine blk_drewN ?_ _ | refine blk_drew ?_ | refine blk_alloc ?_ _)); exact BK114.out⟩, ⟨by repeat (first | (with_reducible first | exact HB.out | apply below_alloc | apply pw_below_drewN | apply below_drew1 | refine below_set ?_ GE114.out | refine below_set ?_ GE125.out) | exact HB.out)⟩⟩
                                                · rw [if_neg c52] at H
                                                  exact absurd H (by simp)
                                              · rw [if_neg c51] at H
                                                exact absurd H (by simp)
                                            · rw [if_neg c50] at H
                                              have c50b0 : decide (x86_4 < (y120.length : Int)) = false := decide_eq_false c50
                                              (try (have c50b0h := c50b0; simp only [hl8_1, hl8_2, hl8_4] at c50b0h))
                                              clear c50
                                              have H' := Aside0.mk H
                                              clear H
                                              go_wp2
                                              repeat (go_quiet (fail); try go_wp2)
                                              (try simp only [← hl8_2, ← hl8_4])
                                              go_roundg k4
                                              case measure => have := HK1.out; have := HK2.out; have := HJ22.out; have := HK4.out; omega
                                              case rel => exact ⟨(y119), (wrap64 (x34_2 + 1)), (by first | rfl | (simp; done) | (simp [*]; done)), H', ⟨by have := HK1.out; have := HK2.out; have := HJ22.out; have := HK4.out; omega⟩, ⟨by (try simp only [hl8_1]); (try simp only [hl8_2]); (try simp only [hl8_4]); (with_reducible repeat (first | apply Kd.R_alloc | apply Kd.R_drewN | apply Kd.R_drew)); exact HO_8.out⟩, ⟨by repeat (first | (with_reducible first | exact HB.out | apply below_alloc | apply pw_below_drewN | apply below_drew1 | refine below_set ?_ GE114.out) | exact HB.out)⟩⟩
                                      · rw [if_neg c45] at H
                                        exact absurd H (by simp)
                                    · rw [if_neg c44] at H
                                      exact absurd H (by simp)
                                  · rw [if_neg c42] at H
                                    exact absurd H (by simp)
                                · rw [if_neg c41] at H
                                  exact absurd H (by simp)
                        · rw [if_neg c22] at H
                          exact absurd H (by simp)
                      · rw [if_neg c21] at H
                        exact absurd H (by simp)
                    · rw [if_neg c20] at H
                      have c20b0 : decide (x34_2 < (l2.length : Int)) = false := decide_eq_false c20
                      (try (have c20b0h := c20b0; simp only [hl8_1, hl8_2] at c20b0h))
                      clear c20
                      have H' := Aside0.mk H
                      clear H
                      go_wp2
                      repeat (go_quiet (fail); try go_wp2)
                      go_loopg [106] k2 (fun kq v106 w' => ∃ (x106_3 : Int), v106 = .int .i64 x106_3 ∧ Aside0 (spec_deArrivals.l3 kq x8_2 l2 (l2.length : Int) x106_3 = some (r1, r2)) ∧ Aside0 (kq ≤ k2) ∧ Aside0 (Kd.R (Kd.int .i64) 3 w' w.heap.size (fun _ => True) (.slice (some ⟨go17, 0, none⟩) x8_2.length co9) x8_2) ∧ Aside0 (Below w.heap.size w w'))
                      case atStart => exact ⟨(0), (by first | rfl | (simp; done) | (simp [*]; done)), H', ⟨Nat.le_refl _⟩, ⟨by (try simp only [hl8_1]); (try simp only [hl8_2]); (with_reducible repeat (first | apply Kd.R_alloc | apply Kd.R_drewN | apply Kd.R_drew)); exact HO_8.out⟩, ⟨by repeat (first | (with_reducible first | exact HB.out | apply below_alloc | apply pw_below_drewN | apply below_drew1) | exact HB.out)⟩⟩
                      case round =>
                        clear H'
                        try clear c1
                        try clear p1
                        try clear q1
                        try clear hx1
                        try clear qi1
                        try clear c2
                        try clear p2
                        try clear c3
                        try clear c4
                        try clear c4b0
                        try clear c4b1
                        try clear p4
                        try clear q4
                        try clear hx4
                        try clear hf4
                        try clear c5
                        try clear c5b0
                        try clear c5b1
                        try clear c6
                        try clear c6b0
                        try clear c6b1
                        try clear p6
                        try clear c9
                        try clear c10
                        try clear c10b0
                        try clear c11
                        try clear c11b0
                        try clear p11
                        try clear q11
                        try clear hx11
                        try clear c12
                        try clear c12b0
                        try clear p12
                        try clear q12
                        try clear hx12
                        try clear p13
                        try clear q13
                        try clear hx13
                        try clear hf13
                        try clear c16
                        try clear c16b0
                        try clear c16b1
                        try clear p17
                        try clear q17
                        try clear hx17
                        try clear qi17
                        try clear hf17
                        try clear c20
                        try clear c20b0
                        try clear c21
                        try clear c21b0
                        try clear c22
                        try clear c22b0
                        try clear c27
                        try clear c29
                        try clear c30
                        try clear c30b0
                        try clear c30b1
                        try clear c33
                        try clear c34
                        try clear c34b0
                        try clear c35
                        try clear c35b0
                        try clear c40
                        try clear c41
                        try clear c41b0
                        try clear c42
                        try clear c42b0
                        try clear p43
                        try clear q43
                        try clear hx43
                        try clear hf43
                        try clear c44
                        try clear c44b0
                        try clear c44b1
                        try clear c45
                        try clear c45b0
                        try clear c45b1
                        try clear q49
                        try clear c50
                        try clear c50b0
                        try clear c51
                        try clear c51b0
                        try clear c52
                        try clear c52b0
                        try clear c53
                        try clear c53b0
                        try clear c53b1
                        try clear c54
                        try clear c54b0
                        try clear c54b1
                        try clear c56
                        try clear c60
                        try clear c64
                        try clear p64
                        try clear hcz25_0
                        try clear hcz25_1
                        try clear hcz25_2
                        try clear hcz31_0
                        try clear hcz31_1
                        try clear hcz31_2
                        try clear hcz36_0
                        try clear hcz36_1
                        try clear hcz36_2
                        try clear hcz37_0
                        try clear hcz37_1
                        try clear hcz37_2
                        try clear hcz38_0
                        try clear hcz38_1
                        try clear hcz38_2
                        try clear hcz39_0
                        try clear hcz39_1
                        try clear hcz39_2
                        try clear hcz46_0
                        try clear hcz46_1
                        try clear hcz46_2
                        try clear hcz57_0
                        try clear hcz57_1
                        try clear hcz57_2
                        try clear hcz58_0
                        try clear hcz58_1
                        try clear hcz58_2
                        try clear hcz61_0
                        try clear hcz61_1
                        try clear hcz61_2
                        try clear hcz62_0
                        try clear hcz62_1
                        try clear hcz62_2
                        try clear hcz65_0
                        try clear hcz65_1
                        try clear hcz65_2
                        try clear hcz66_0
                        try clear hcz66_1
                        try clear hcz66_2
                        try clear hfz25_0
                        try clear hfz25_1
                        try clear hfz25_2
                        try clear hfz31_0
                        try clear hfz31_1
                        try clear hfz31_2
                        try clear hfz36_0
                        try clear hfz36_1
                        try clear hfz36_2
                        try clear hfz37_0
                        try clear hfz37_1
                        try clear hfz37_2
                        try clear hfz38_0
                        try clear hfz38_1
                        try clear hfz38_2
                        try clear hfz39_0
                        try clear hfz39_1
                        try clear hfz39_2
                        try clear hfz46_0
                        try clear hfz46_1
                        try clear hfz46_2
                        try clear hfz57_0
                        try clear hfz57_1
                        try clear hfz57_2
                        try clear hfz58_0
                        try clear hfz58_1
                        try clear hfz58_2
                        try clear hfz61_0
                        try clear hfz61_1
                        try clear hfz61_2
                        try clear hfz62_0
                        try clear hfz62_1
                        try clear hfz62_2
                        try clear hfz65_0
                        try clear hfz65_1
                        try clear hfz65_2
                        try clear hfz66_0
                        try clear hfz66_1
                        try clear hfz66_2
                        try clear hx113_0
                        try clear hx113_1
                        try clear hx113_2
                        try clear hx118_0
                        try clear hx124_0
                        try clear hx124_1
                        try clear hx124_2
                        try clear hx13_0
                        try clear hx17_0
                        try clear hx43_0
                        try clear p1
                        try clear p11
                        try clear p113
                        try clear p118
                        try clear p124
                        try clear p13
                        try clear p17
                        try clear p2
                        try clear p4
                        try clear p43
                        try clear p6
                        try clear q1
                        try clear q11
                        try clear q113
                        try clear q118
                        try clear q124
                        try clear q13
                        try clear q17
                        try clear q4
                        try clear q43
                        try clear q49
                        obtain ⟨x106_3, rfl, HA, HK3, HO_8, HB⟩ := hrel
                        cases gk with
                        | zero => exact absurd HA.out (by simp [spec_deArrivals.l3])
                        | succ k3 =>
                          have H := HA.out
                          clear HA
                          simp only [spec_deArrivals.l3] at H
                          by_cases c67 : x106_3 < (l2.length : Int)
                          · rw [if_pos c67] at H
                            have c67b0 : decide (x106_3 < (l2.length : Int)) = true := decide_eq_true c67
                            (try (have c67b0h := c67b0; simp only [hl8_1, hl8_2] at c67b0h))
                            clear c67
                            by_cases c68 : 0 ≤ x106_3
                            · rw [if_pos c68] at H
                              have c68b0 : decide (0 ≤ x106_3) = true := decide_eq_true c68
                              (try (have c68b0h := c68b0; simp only [hl8_1, hl8_2] at c68b0h))
                              clear c68
                              by_cases c69 : x106_3 < (l2.length : Int)
                              · rw [if_pos c69] at H
                                have c69b0 : decide (x106_3 < (l2.length : Int)) = true := decide_eq_true c69
                                (try (have c69b0h := c69b0; simp only [hl8_1, hl8_2] at c69b0h))
                                clear c69
                                by_cases c70 : 0 ≤ ((rd_T67 l2 x106_3).f0)
                                · rw [if_pos c70] at H
                                  have c70b0 : decide (0 ≤ ((rd_T67 l2 x106_3).f0)) = true := decide_eq_true c70
                                  (try (have c70b0h := c70b0; simp only [hl8_1, hl8_2] at c70b0h))
                                  clear c70
                                  by_cases c71 : ((rd_T67 l2 x106_3).f0) < (x8_2.length : Int)
                                  · rw [if_pos c71] at H
                                    have c71b0 : decide (((rd_T67 l2 x106_3).f0) < (x8_2.length : Int)) = true := decide_eq_true c71
                                    (try (have c71b0h := c71b0; simp only [hl8_1, hl8_2] at c71b0h))
                                    clear c71
                                    by_cases c72 : (rd x8_2 ((rd_T67 l2 x106_3).f0)) < 0
                                    · rw [if_pos c72] at H
                                      have c72b0 : decide ((rd x8_2 ((rd_T67 l2 x106_3).f0)) < 0) = true := decide_eq_true c72
                                      (try (have c72b0h := c72b0; simp only [hl8_1, hl8_2] at c72b0h))
                                      clear c72
                                      simp only [Option.some.injEq, Prod.mk.injEq] at H
                                      obtain ⟨rfl, rfl⟩ := H
                                      have p126 : 0 ≤ (x106_3 : Int) := of_decide_eq_true (by first | (with_reducible assumption) | assumption)
                                      have q126 : x106_3 < (l2.length : Int) := of_decide_eq_true (by first | (with_reducible assumption) | assumption)
                                      obtain ⟨ad126, e126, hx126_0, hx126_1, hx126_2⟩ := at_T67 HR2.out x106_3 p126 q126
                                      cases e126
                                      replace hx126_0 := (HB.out.cell (World.block_lt_of_cell? w _ hx126_0)).trans hx126_0
                                      replace hx126_1 := (HB.out.cell (World.block_lt_of_cell? w _ hx126_1)).trans hx126_1
                                      replace hx126_2 := (HB.out.cell (World.block_lt_of_cell? w _ hx126_2)).trans hx126_2
                                      replace p126 := eq_true p126
                                      replace q126 := eq_true q126
                                      go_wp2_with (first | ((with_reducible refine gate_dst (N := 15) rfl ?_); refine box_event ?hg (N := 15) ?hd (cs := #[.int .i64 0, .int .i64 0, .int .i64 0]) (t := 67) ?hr ?_; (case hd => rfl); (case hg => rfl); (case hr => first | (go_simp; done) | (go_simp; rfl)); intro gb127 hg w73 hbox hb; have n0_ := Aside0.mk (Kd.R_below (by (with_reducible repeat (first | apply Kd.R_alloc | apply Kd.R_drewN | apply Kd.R_drew)); exact HO_8.out) hb); have n1_ := Aside0.mk (below_step (by repeat (first | (with_reducible first | exact HB.out | apply below_alloc | apply pw_below_drewN | apply below_drew1) | exact HB.out)) hb); have n2_ := Aside0.mk (hbox); have n3_ := Aside0.mk ((by rw [hg]; exact (below_size (by repeat (first | (with_reducible first | exact HB.out | apply below_alloc | apply pw_below_drewN | apply below_drew1) | exact HB.out))) : w.heap.size ≤ gb127)); have n4_ := Aside0.mk ((by rw [hg]; exact (below_size (by repeat (first | (with_reducible first | exact HB.out | apply below_alloc | apply pw_below_drewN | apply below_drew1) | exact HB.out))) : w.heap.size ≤ gb127)); clear HO_8; clear HB; have HO_8 := n0_; have HB := n1_; have BK127 := n2_; have GW127 := n3_; have GE127 := n4_; clear n0_ n1_ n2_ n3_ n4_; clear hb hbox hg; have hcz74_0 : w73.cell? ⟨gb127, 0, none⟩ = some (.int .i64 0) := (blk_cell BK127.out 0).trans rfl; have hcz74_1 : w73.cell? ⟨gb127, 1, none⟩ = some (.int .i64 0) := (blk_cell BK127.out 1).trans rfl; have hcz74_2 : w73.cell? ⟨gb127, 2, none⟩ = some (.int .i64 0) := (blk_cell BK127.out 2).trans rfl; have hfz74_0 := blk_frozen BK127.out 0; have hfz74_1 := blk_frozen BK127.out 1; have hfz74_2 := blk_frozen BK127.out 2; have p128 : 0 ≤ (((rd_T67 l2 x106_3).f0) : Int) := of_decide_eq_true (by first | (with_reducible assumption) | assumption); have q128 : ((rd_T67 l2 x106_3).f0) < (x8_2.length : Int) := of_decide_eq_true (by first | (with_reducible assumption) | assumption); obtain ⟨ad128, e128, hx128_0⟩ := Kd.at_int (Kd.R_reads' HO_8.out).2.2 ((rd_T67 l2 x106_3).f0) p128 q128; obtain rfl : (⟨go17, 0, none⟩ : Addr) = ad128 := (by injection e128); (first | simp only [add_plain] at hx128_0 | simp only [add_at] at hx128_0 | simp only [Addr.add, Nat.zero_add] at hx128_0 | skip); have hn128_0 : (⟨go17, 0, none⟩ : Addr).block ≠ gb127 := Kd.own_blk (Kd.R_ne HO_8.out BK127.out (by decide)); have hn128_1 : (⟨go17, 0, none⟩ : Addr).block ≠ gb127 := Kd.own_blk (Kd.R_ne HO_8.out BK127.out (by decide)); have hn128_2 : (⟨go17, 0, none⟩ : Addr).block ≠ gb127 := Kd.own_blk (Kd.R_ne HO_8.out BK127.out (by decide)); replace hx128_0 := (cell_far (p := ⟨gb127, 0, none⟩) (by first | (rw [add_block]; exact hn128_0) | (show (Addr.add _ _).block ≠ _; rw [add_block]; exact hn128_0) | exact hn128_0) (.int .i64 ((rd_T67 l2 x106_3).f0))).trans hx128_0; replace hx128_0 := (cell_far (p := ⟨gb127, 1, none⟩) (by first | (rw [add_block]; exact hn128_1) | (show (Addr.add _ _).block ≠ _; rw [add_block]; exact hn128_1) | exact hn128_1) (.int .i64 ((rd_T67 l2 x106_3).f1))).trans hx128_0; replace hx128_0 := (cell_far (p := ⟨gb127, 2, none⟩) (by first | (rw [add_block]; exact hn128_2) | (show (Addr.add _ _).block ≠ _; rw [add_block]; exact hn128_2) | exact hn128_2) (.int .i64 ((rd_T67 l2 x106_3).f2))).trans hx128_0; (try have hy128_0 := fun (n_ : Nat) => (show (((((w73.drewN n_).setCell ⟨gb127, 0, none⟩ (.int .i64 ((rd_T67 l2 x106_3).f0))).setCell ⟨gb127, 1, none⟩ (.int .i64 ((rd_T67 l2 x106_3).f1))).setCell ⟨gb127, 2, none⟩ (.int .i64 ((rd_T67 l2 x106_3).f2)))).cell? _ = some _ from hx128_0)); clear hn128_0; clear hn128_1; clear hn128_2; replace p128 := eq_true p128; replace q128 := eq_true q128))
                                      repeat (go_quiet (first | ((with_reducible refine gate_dst (N := 15) rfl ?_); refine box_event ?hg (N := 15) ?hd (cs := #[.int .i64 0, .int .i64 0, .int .i64 0]) (t := 67) ?hr ?_; (case hd => rfl); (case hg => rfl); (case hr => first | (go_simp; done) | (go_simp; rfl)); intro gb127 hg w73 hbox hb; have n0_ := Aside0.mk (Kd.R_below (by (with_reducible repeat (first | apply Kd.R_alloc | apply Kd.R_drewN | apply Kd.R_drew)); exact HO_8.out) hb); have n1_ := Aside0.mk (below_step (by repeat (first | (with_reducible first | exact HB.out | apply below_alloc | apply pw_below_drewN | apply below_drew1) | exact HB.out)) hb); have n2_ := Aside0.mk (hbox); have n3_ := Aside0.mk ((by rw [hg]; exact (below_size (by repeat (first | (with_reducible first | exact HB.out | apply below_alloc | apply pw_below_drewN | apply below_drew1) | exact HB.out))) : w.heap.size ≤ gb127)); have n4_ := Aside0.mk ((by rw [hg]; exact (below_size (by repeat (first | (with_reducible first | exact HB.out | apply below_alloc | apply pw_below_drewN | apply below_drew1) | exact HB.out))) : w.heap.size ≤ gb127)); clear HO_8; clear HB; have HO_8 := n0_; have HB := n1_; have BK127 := n2_; have GW127 := n3_; have GE127 := n4_; clear n0_ n1_ n2_ n3_ n4_; clear hb hbox hg; have hcz74_0 : w73.cell? ⟨gb127, 0, none⟩ = some (.int .i64 0) := (blk_cell BK127.out 0).trans rfl; have hcz74_1 : w73.cell? ⟨gb127, 1, none⟩ = some (.int .i64 0) := (blk_cell BK127.out 1).trans rfl; have hcz74_2 : w73.cell? ⟨gb127, 2, none⟩ = some (.int .i64 0) := (blk_cell BK127.out 2).trans rfl; have hfz74_0 := blk_frozen BK127.out 0; have hfz74_1 := blk_frozen BK127.out 1; have hfz74_2 := blk_frozen BK127.out 2; have p128 : 0 ≤ (((rd_T67 l2 x106_3).f0) : Int) := of_decide_eq_true (by first | (with_reducible assumption) | assumption); have q128 : ((rd_T67 l2 x106_3).f0) < (x8_2.length : Int) := of_decide_eq_true (by first | (with_reducible assumption) | assumption); obtain ⟨ad128, e128, hx128_0⟩ := Kd.at_int (Kd.R_reads' HO_8.out).2.2 ((rd_T67 l2 x106_3).f0) p128 q128; obtain rfl : (⟨go17, 0, none⟩ : Addr) = ad128 := (by injection e128); (first | simp only [add_plain] at hx128_0 | simp only [add_at] at hx128_0 | simp only [Addr.add, Nat.zero_add] at hx128_0 | skip); have hn128_0 : (⟨go17, 0, none⟩ : Addr).block ≠ gb127 := Kd.own_blk (Kd.R_ne HO_8.out BK127.out (by decide)); have hn128_1 : (⟨go17, 0, none⟩ : Addr).block ≠ gb127 := Kd.own_blk (Kd.R_ne HO_8.out BK127.out (by decide)); have hn128_2 : (⟨go17, 0, none⟩ : Addr).block ≠ gb127 := Kd.own_blk (Kd.R_ne HO_8.out BK127.out (by decide)); replace hx128_0 := (cell_far (p := ⟨gb127, 0, none⟩) (by first | (rw [add_block]; exact hn128_0) | (show (Addr.add _ _).block ≠ _; rw [add_block]; exact hn128_0) | exact hn128_0) (.int .i64 ((rd_T67 l2 x106_3).f0))).trans hx128_0; replace hx128_0 := (cell_far (p := ⟨gb127, 1, none⟩) (by first | (rw [add_block]; exact hn128_1) | (show (Addr.add _ _).block ≠ _; rw [add_block]; exact hn128_1) | exact hn128_1) (.int .i64 ((rd_T67 l2 x106_3).f1))).trans hx128_0; replace hx128_0 := (cell_far (p := ⟨gb127, 2, none⟩) (by first | (rw [add_block]; exact hn128_2) | (show (Addr.add _ _).block ≠ _; rw [add_block]; exact hn128_2) | exact hn128_2) (.int .i64 ((rd_T67 l2 x106_3).f2))).trans hx128_0; (try have hy128_0 := fun (n_ : Nat) => (show (((((w73.drewN n_).setCell ⟨gb127, 0, none⟩ (.int .i64 ((rd_T67 l2 x106_3).f0))).setCell ⟨gb127, 1, none⟩ (.int .i64 ((rd_T67 l2 x106_3).f1))).setCell ⟨gb127, 2, none⟩ (.int .i64 ((rd_T67 l2 x106_3).f2)))).cell? _ = some _ from hx128_0)); clear hn128_0; clear hn128_1; clear hn128_2; replace p128 := eq_true p128; replace q128 := eq_true q128)); try go_wp2_with (first | ((with_reducible refine gate_dst (N := 15) rfl ?_); refine box_event ?hg (N := 15) ?hd (cs := #[.int .i64 0, .int .i64 0, .int .i64 0]) (t := 67) ?hr ?_; (case hd => rfl); (case hg => rfl); (case hr => first | (go_simp; done) | (go_simp; rfl)); intro gb127 hg w73 hbox hb; have n0_ := Aside0.mk (Kd.R_below (by (with_reducible repeat (first | apply Kd.R_alloc | apply Kd.R_drewN | apply Kd.R_drew)); exact HO_8.out) hb); have n1_ := Aside0.mk (below_step (by repeat (first | (with_reducible first | exact HB.out | apply below_alloc | apply pw_below_drewN | apply below_drew1) | exact HB.out)) hb); have n2_ := Aside0.mk (hbox); have n3_ := Aside0.mk ((by rw [hg]; exact (below_size (by repeat (first | (with_reducible first | exact HB.out | apply below_alloc | apply pw_below_drewN | apply below_drew1) | exact HB.out))) : w.heap.size ≤ gb127)); have n4_ := Aside0.mk ((by rw [hg]; exact (below_size (by repeat (first | (with_reducible first | exact HB.out | apply below_alloc | apply pw_below_drewN | apply below_drew1) | exact HB.out))) : w.heap.size ≤ gb127)); clear HO_8; clear HB; have HO_8 := n0_; have HB := n1_; have BK127 := n2_; have GW127 := n3_; have GE127 := n4_; clear n0_ n1_ n2_ n3_ n4_; clear hb hbox hg; have hcz74_0 : w73.cell? ⟨gb127, 0, none⟩ = some (.int .i64 0) := (blk_cell BK127.out 0).trans rfl; have hcz74_1 : w73.cell? ⟨gb127, 1, none⟩ = some (.int .i64 0) := (blk_cell BK127.out 1).trans rfl; have hcz74_2 : w73.cell? ⟨gb127, 2, none⟩ = some (.int .i64 0) := (blk_cell BK127.out 2).trans rfl; have hfz74_0 := blk_frozen BK127.out 0; have hfz74_1 := blk_frozen BK127.out 1; have hfz74_2 := blk_frozen BK127.out 2; have p128 : 0 ≤ (((rd_T67 l2 x106_3).f0) : Int) := of_decide_eq_true (by first | (with_reducible assumption) | assumption); have q128 : ((rd_T67 l2 x106_3).f0) < (x8_2.length : Int) := of_decide_eq_true (by first | (with_reducible assumption) | assumption); obtain ⟨ad128, e128, hx128_0⟩ := Kd.at_int (Kd.R_reads' HO_8.out).2.2 ((rd_T67 l2 x106_3).f0) p128 q128; obtain rfl : (⟨go17, 0, none⟩ : Addr) = ad128 := (by injection e128); (first | simp only [add_plain] at hx128_0 | simp only [add_at] at hx128_0 | simp only [Addr.add, Nat.zero_add] at hx128_0 | skip); have hn128_0 : (⟨go17, 0, none⟩ : Addr).block ≠ gb127 := Kd.own_blk (Kd.R_ne HO_8.out BK127.out (by decide)); have hn128_1 : (⟨go17, 0, none⟩ : Addr).block ≠ gb127 := Kd.own_blk (Kd.R_ne HO_8.out BK127.out (by decide)); have hn128_2 : (⟨go17, 0, none⟩ : Addr).block ≠ gb127 := Kd.own_blk (Kd.R_ne HO_8.out BK127.out (by decide)); replace hx128_0 := (cell_far (p := ⟨gb127, 0, none⟩) (by first | (rw [add_block]; exact hn128_0) | (show (Addr.add _ _).block ≠ _; rw [add_block]; exact hn128_0) | exact hn128_0) (.int .i64 ((rd_T67 l2 x106_3).f0))).trans hx128_0; replace hx128_0 := (cell_far (p := ⟨gb127, 1, none⟩) (by first | (rw [add_block]; exact hn128_1) | (show (Addr.add _ _).block ≠ _; rw [add_block]; exact hn128_1) | exact hn128_1) (.int .i64 ((rd_T67 l2 x106_3).f1))).trans hx128_0; replace hx128_0 := (cell_far (p := ⟨gb127, 2, none⟩) (by first | (rw [add_block]; exact hn128_2) | (show (Addr.add _ _).block ≠ _; rw [add_block]; exact hn128_2) | exact hn128_2) (.int .i64 ((rd_T67 l2 x106_3).f2))).trans hx128_0; (try have hy128_0 := fun (n_ : Nat) => (show (((((w73.drewN n_).setCell ⟨gb127, 0, none⟩ (.int .i64 ((rd_T67 l2 x106_3).f0))).setCell ⟨gb127, 1, none⟩ (.int .i64 ((rd_T67 l2 x106_3).f1))).setCell ⟨gb127, 2, none⟩ (.int .i64 ((rd_T67 l2 x106_3).f2)))).cell? _ = some _ from hx128_0)); clear hn128_0; clear hn128_1; clear hn128_2; replace p128 := eq_true p128; replace q128 := eq_true q128)))
                                      go_ret2
                                      exact ⟨_, by first | rfl | (simp [errW_none, errW_some] <;> rfl) | (simp [*, errW_none, errW_some] <;> rfl), by first | exact Kd.R_nil _ _ _ _ _ | exact Kd.N_nil _ _ _ _ _ | exact Kd.V_nil _ _ _ _ _ | exact Kd.Q_nil _ _ _ _ _ | exact Kd.S_nil _ _ _ _ _, by repeat (first | (with_reducible first | exact HB.out | apply below_alloc | apply pw_below_drewN | apply below_drew1 | refine below_set ?_ GE127.out) | exact HB.out)⟩
                                    · rw [if_neg c72] at H
                                      have c72b0 : decide ((rd x8_2 ((rd_T67 l2 x106_3).f0)) < 0) = false := decide_eq_false c72
                                      (try (have c72b0h := c72b0; simp only [hl8_1, hl8_2] at c72b0h))
                                      clear c72
                                      by_cases c75 : (rd x8_2 ((rd_T67 l2 x106_3).f0)) > ((rd_T67 l2 x106_3).f2)
                                      · rw [if_pos c75] at H
                                        have c75b0 : decide (((rd_T67 l2 x106_3).f2) < (rd x8_2 ((rd_T67 l2 x106_3).f0))) = true := decide_eq_true c75
                                        (try (have c75b0h := c75b0; simp only [hl8_1, hl8_2] at c75b0h))
                                        clear c75
                                        simp only [Option.some.injEq, Prod.mk.injEq] at H
                                        obtain ⟨rfl, rfl⟩ := H
                                        have p126 : 0 ≤ (x106_3 : Int) := of_decide_eq_true (by first | (with_reducible assumption) | assumption)
                                        have q126 : x106_3 < (l2.length : Int) := of_decide_eq_true (by first | (with_reducible assumption) | assumption)
                                        obtain ⟨ad126, e126, hx126_0, hx126_1, hx126_2⟩ := at_T67 HR2.out x106_3 p126 q126
                                        cases e126
                                        replace hx126_0 := (HB.out.cell (World.block_lt_of_cell? w _ hx126_0)).trans hx126_0
                                        replace hx126_1 := (HB.out.cell (World.block_lt_of_cell? w _ hx126_1)).trans hx126_1
                                        replace hx126_2 := (HB.out.cell (World.block_lt_of_cell? w _ hx126_2)).trans hx126_2
                                        replace p126 := eq_true p126
                                        replace q126 := eq_true q126
                                        go_wp2_with (first | ((with_reducible refine gate_dst (N := 15) rfl ?_); refine box_event ?hg (N := 15) ?hd (cs := #[.int .i64 0, .int .i64 0, .int .i64 0]) (t := 67) ?hr ?_; (case hd => rfl); (case hg => rfl); (case hr => first | (go_simp; done) | (go_simp; rfl)); intro gb127 hg w76 hbox hb; have n0_ := Aside0.mk (Kd.R_below (by (with_reducible repeat (first | apply Kd.R_alloc | apply Kd.R_drewN | apply Kd.R_drew)); exact HO_8.out) hb); have n1_ := Aside0.mk (below_step (by repeat (first | (with_reducible first | exact HB.out | apply below_alloc | apply pw_below_drewN | apply below_drew1) | exact HB.out)) hb); have n2_ := Aside0.mk (hbox); have n3_ := Aside0.mk ((by rw [hg]; exact (below_size (by repeat (first | (with_reducible first | exact HB.out | apply below_alloc | apply pw_below_drewN | apply below_drew1) | exact HB.out))) : w.heap.size ≤ gb127)); have n4_ := Aside0.mk ((by rw [hg]; exact (below_size (by repeat (first | (with_reducible first | exact HB.out | apply below_alloc | apply pw_below_drewN | apply below_drew1) | exact HB.out))) : w.heap.size ≤ gb127)); clear HO_8; clear HB; have HO_8 := n0_; have HB := n1_; have BK127 := n2_; have GW127 := n3_; have GE127 := n4_; clear n0_ n1_ n2_ n3_ n4_; clear hb hbox hg; have hcz77_0 : w76.cell? ⟨gb127, 0, none⟩ = some (.int .i64 0) := (blk_cell BK127.out 0).trans rfl; have hcz77_1 : w76.cell? ⟨gb127, 1, none⟩ = some (.int .i64 0) := (blk_cell BK127.out 1).trans rfl; have hcz77_2 : w76.cell? ⟨gb127, 2, none⟩ = some (.int .i64 0) := (blk_cell BK127.out 2).trans rfl; have hfz77_0 := blk_frozen BK127.out 0; have hfz77_1 := blk_frozen BK127.out 1; have hfz77_2 := blk_frozen BK127.out 2; have p128 : 0 ≤ (((rd_T67 l2 x106_3).f0) : Int) := of_decide_eq_true (by first | (with_reducible assumption) | assumption); have q128 : ((rd_T67 l2 x106_3).f0) < (x8_2.length : Int) := of_decide_eq_true (by first | (with_reducible assumption) | assumption); obtain ⟨ad128, e128, hx128_0⟩ := Kd.at_int (Kd.R_reads' HO_8.out).2.2 ((rd_T67 l2 x106_3).f0) p128 q128; obtain rfl : (⟨go17, 0, none⟩ : Addr) = ad128 := (by injection e128); (first | simp only [add_plain] at hx128_0 | simp only [add_at] at hx128_0 | simp only [Addr.add, Nat.zero_add] at hx128_0 | skip); have hn128_0 : (⟨go17, 0, none⟩ : Addr).block ≠ gb127 := Kd.own_blk (Kd.R_ne HO_8.out BK127.out (by decide)); have hn128_1 : (⟨go17, 0, none⟩ : Addr).block ≠ gb127 := Kd.own_blk (Kd.R_ne HO_8.out BK127.out (by decide)); have hn128_2 : (⟨go17, 0, none⟩ : Addr).block ≠ gb127 := Kd.own_blk (Kd.R_ne HO_8.out BK127.out (by decide)); replace hx128_0 := (cell_far (p := ⟨gb127, 0, none⟩) (by first | (rw [add_block]; exact hn128_0) | (show (Addr.add _ _).block ≠ _; rw [add_block]; exact hn128_0) | exact hn128_0) (.int .i64 ((rd_T67 l2 x106_3).f0))).trans hx128_0; replace hx128_0 := (cell_far (p := ⟨gb127, 1, none⟩) (by first | (rw [add_block]; exact hn128_1) | (show (Addr.add _ _).block ≠ _; rw [add_block]; exact hn128_1) | exact hn128_1) (.int .i64 ((rd_T67 l2 x106_3).f1))).trans hx128_0; replace hx128_0 := (cell_far (p := ⟨gb127, 2, none⟩) (by first | (rw [add_block]; exact hn128_2) | (show (Addr.add _ _).block ≠ _; rw [add_block]; exact hn128_2) | exact hn128_2) (.int .i64 ((rd_T67 l2 x106_3).f2))).trans hx128_0; (try have hy128_0 := fun (n_ : Nat) => (show (((((w76.drewN n_).setCell ⟨gb127, 0, none⟩ (.int .i64 ((rd_T67 l2 x106_3).f0))).setCell ⟨gb127, 1, none⟩ (.int .i64 ((rd_T67 l2 x106_3).f1))).setCell ⟨gb127, 2, none⟩ (.int .i64 ((rd_T67 l2 x106_3).f2)))).cell? _ = some _ from hx128_0)); clear hn128_0; clear hn128_1; clear hn128_2; replace p128 := eq_true p128; replace q128 := eq_true q128; have p129 : 0 ≤ (((rd_T67 l2 x106_3).f0) : Int) := of_decide_eq_true (by first | (with_reducible assumption) | assumption); have q129 : ((rd_T67 l2 x106_3).f0) < (x8_2.length : Int) := of_decide_eq_true (by first | (with_reducible assumption) | assumption); obtain ⟨ad129, e129, hx129_0⟩ := Kd.at_int (Kd.R_reads' HO_8.out).2.2 ((rd_T67 l2 x106_3).f0) p129 q129; obtain rfl : (⟨go17, 0, none⟩ : Addr) = ad129 := (by injection e129); (first | simp only [add_plain] at hx129_0 | simp only [add_at] at hx129_0 | simp only [Addr.add, Nat.zero_add] at hx129_0 | skip); have hn129_0 : (⟨go17, 0, none⟩ : Addr).block ≠ gb127 := Kd.own_blk (Kd.R_ne HO_8.out BK127.out (by decide)); have hn129_1 : (⟨go17, 0, none⟩ : Addr).block ≠ gb127 := Kd.own_blk (Kd.R_ne HO_8.out BK127.out (by decide)); have hn129_2 : (⟨go17, 0, none⟩ : Addr).block ≠ gb127 := Kd.own_blk (Kd.R_ne HO_8.out BK127.out (by decide)); replace hx129_0 := (cell_far (p := ⟨gb127, 0, none⟩) (by first | (rw [add_block]; exact hn129_0) | (show (Addr.add _ _).block ≠ _; rw [add_block]; exact hn129_0) | exact hn129_0) (.int .i64 ((rd_T67 l2 x106_3).f0))).trans hx129_0; replace hx129_0 := (cell_far (p := ⟨gb127, 1, none⟩) (by first | (rw [add_block]; exact hn129_1) | (show (Addr.add _ _).block ≠ _; rw [add_block]; exact hn129_1) | exact hn129_1) (.int .i64 ((rd_T67 l2 x106_3).f1))).trans hx129_0; replace hx129_0 := (cell_far (p := ⟨gb127, 2, none⟩) (by first | (rw [add_block]; exact hn129_2) | (show (Addr.add _ _).block ≠ _; rw [add_block]; exact hn129_2) | exact hn129_2) (.int .i64 ((rd_T67 l2 x106_3).f2))).trans hx129_0; (try have hy129_0 := fun (n_ : Nat) => (show (((((w76.drewN n_).setCell ⟨gb127, 0, none⟩ (.int .i64 ((rd_T67 l2 x106_3).f0))).setCell ⟨gb127, 1, none⟩ (.int .i64 ((rd_T67 l2 x106_3).f1))).setCell ⟨gb127, 2, none⟩ (.int .i64 ((rd_T67 l2 x106_3).f2)))).cell? _ = some _ from hx129_0)); clear hn129_0; clear hn129_1; clear hn129_2; replace p129 := eq_true p129; replace q129 := eq_true q129))
                                        repeat (go_quiet (first | ((with_reducible refine gate_dst (N := 15) rfl ?_); refine box_event ?hg (N := 15) ?hd (cs := #[.int .i64 0, .int .i64 0, .int .i64 0]) (t := 67) ?hr ?_; (case hd => rfl); (case hg => rfl); (case hr => first | (go_simp; done) | (go_simp; rfl)); intro gb127 hg w76 hbox hb; have n0_ := Aside0.mk (Kd.R_below (by (with_reducible repeat (first | apply Kd.R_alloc | apply Kd.R_drewN | apply Kd.R_drew)); exact HO_8.out) hb); have n1_ := Aside0.mk (below_step (by repeat (first | (with_reducible first | exact HB.out | apply below_alloc | apply pw_below_drewN | apply below_drew1) | exact HB.out)) hb); have n2_ := Aside0.mk (hbox); have n3_ := Aside0.mk ((by rw [hg]; exact (below_size (by repeat (first | (with_reducible first | exact HB.out | apply below_alloc | apply pw_below_drewN | apply below_drew1) | exact HB.out))) : w.heap.size ≤ gb127)); have n4_ := Aside0.mk ((by rw [hg]; exact (below_size (by repeat (first | (with_reducible first | exact HB.out | apply below_alloc | apply pw_below_drewN | apply below_drew1) | exact HB.out))) : w.heap.size ≤ gb127)); clear HO_8; clear HB; have HO_8 := n0_; have HB := n1_; have BK127 := n2_; have GW127 := n3_; have GE127 := n4_; clear n0_ n1_ n2_ n3_ n4_; clear hb hbox hg; have hcz77_0 : w76.cell? ⟨gb127, 0, none⟩ = some (.int .i64 0) := (blk_cell BK127.out 0).trans rfl; have hcz77_1 : w76.cell? ⟨gb127, 1, none⟩ = some (.int .i64 0) := (blk_cell BK127.out 1).trans rfl; have hcz77_2 : w76.cell? ⟨gb127, 2, none⟩ = some (.int .i64 0) := (blk_cell BK127.out 2).trans rfl; have hfz77_0 := blk_frozen BK127.out 0; have hfz77_1 := blk_frozen BK127.out 1; have hfz77_2 := blk_frozen BK127.out 2; have p128 : 0 ≤ (((rd_T67 l2 x106_3).f0) : Int) := of_decide_eq_true (by first | (with_reducible assumption) | assumption); have q128 : ((rd_T67 l2 x106_3).f0) < (x8_2.length : Int) := of_decide_eq_true (by first | (with_reducible assumption) | assumption); obtain ⟨ad128, e128, hx128_0⟩ := Kd.at_int (Kd.R_reads' HO_8.out).2.2 ((rd_T67 l2 x106_3).f0) p128 q128; obtain rfl : (⟨go17, 0, none⟩ : Addr) = ad128 := (by injection e128); (first | simp only [add_plain] at hx128_0 | simp only [add_at] at hx128_0 | simp only [Addr.add, Nat.zero_add] at hx128_0 | skip); have hn128_0 : (⟨go17, 0, none⟩ : Addr).block ≠ gb127 := Kd.own_blk (Kd.R_ne HO_8.out BK127.out (by decide)); have hn128_1 : (⟨go17, 0, none⟩ : Addr).block ≠ gb127 := Kd.own_blk (Kd.R_ne HO_8.out BK127.out (by decide)); have hn128_2 : (⟨go17, 0, none⟩ : Addr).block ≠ gb127 := Kd.own_blk (Kd.R_ne HO_8.out BK127.out (by decide)); replace hx128_0 := (cell_far (p := ⟨gb127, 0, none⟩) (by first | (rw [add_block]; exact hn128_0) | (show (Addr.add _ _).block ≠ _; rw [add_block]; exact hn128_0) | exact hn128_0) (.int .i64 ((rd_T67 l2 x106_3).f0))).trans hx128_0; replace hx128_0 := (cell_far (p := ⟨gb127, 1, none⟩) (by first | (rw [add_block]; exact hn128_1) | (show (Addr.add _ _).block ≠ _; rw [add_block]; exact hn128_1) | exact hn128_1) (.int .i64 ((rd_T67 l2 x106_3).f1))).trans hx128_0; replace hx128_0 := (cell_far (p := ⟨gb127, 2, none⟩) (by first | (rw [add_block]; exact hn128_2) | (show (Addr.add _ _).block ≠ _; rw [add_block]; exact hn128_2) | exact hn128_2) (.int .i64 ((rd_T67 l2 x106_3).f2))).trans hx128_0; (try have hy128_0 := fun (n_ : Nat) => (show (((((w76.drewN n_).setCell ⟨gb127, 0, none⟩ (.int .i64 ((rd_T67 l2 x106_3).f0))).setCell ⟨gb127, 1, none⟩ (.int .i64 ((rd_T67 l2 x106_3).f1))).setCell ⟨gb127, 2, none⟩ (.int .i64 ((rd_T67 l2 x106_3).f2)))).cell? _ = some _ from hx128_0)); clear hn128_0; clear hn128_1; clear hn128_2; replace p128 := eq_true p128; replace q128 := eq_true q128; have p129 : 0 ≤ (((rd_T67 l2 x106_3).f0) : Int) := of_decide_eq_true (by first | (with_reducible assumption) | assumption); have q129 : ((rd_T67 l2 x106_3).f0) < (x8_2.length : Int) := of_decide_eq_true (by first | (with_reducible assumption) | assumption); obtain ⟨ad129, e129, hx129_0⟩ := Kd.at_int (Kd.R_reads' HO_8.out).2.2 ((rd_T67 l2 x106_3).f0) p129 q129; obtain rfl : (⟨go17, 0, none⟩ : Addr) = ad129 := (by injection e129); (first | simp only [add_plain] at hx129_0 | simp only [add_at] at hx129_0 | simp only [Addr.add, Nat.zero_add] at hx129_0 | skip); have hn129_0 : (⟨go17, 0, none⟩ : Addr).block ≠ gb127 := Kd.own_blk (Kd.R_ne HO_8.out BK127.out (by decide)); have hn129_1 : (⟨go17, 0, none⟩ : Addr).block ≠ gb127 := Kd.own_blk (Kd.R_ne HO_8.out BK127.out (by decide)); have hn129_2 : (⟨go17, 0, none⟩ : Addr).block ≠ gb127 := Kd.own_blk (Kd.R_ne HO_8.out BK127.out (by decide)); replace hx129_0 := (cell_far (p := ⟨gb127, 0, none⟩) (by first | (rw [add_block]; exact hn129_0) | (show (Addr.add _ _).block ≠ _; rw [add_block]; exact hn129_0) | exact hn129_0) (.int .i64 ((rd_T67 l2 x106_3).f0))).trans hx129_0; replace hx129_0 := (cell_far (p := ⟨gb127, 1, none⟩) (by first | (rw [add_block]; exact hn129_1) | (show (Addr.add _ _).block ≠ _; rw [add_block]; exact hn129_1) | exact hn129_1) (.int .i64 ((rd_T67 l2 x106_3).f1))).trans hx129_0; replace hx129_0 := (cell_far (p := ⟨gb127, 2, none⟩) (by first | (rw [add_block]; exact hn129_2) | (show (Addr.add _ _).block ≠ _; rw [add_block]; exact hn129_2) | exact hn129_2) (.int .i64 ((rd_T67 l2 x106_3).f2))).trans hx129_0; (try have hy129_0 := fun (n_ : Nat) => (show (((((w76.drewN n_).setCell ⟨gb127, 0, none⟩ (.int .i64 ((rd_T67 l2 x106_3).f0))).setCell ⟨gb127, 1, none⟩ (.int .i64 ((rd_T67 l2 x106_3).f1))).setCell ⟨gb127, 2, none⟩ (.int .i64 ((rd_T67 l2 x106_3).f2)))).cell? _ = some _ from hx129_0)); clear hn129_0; clear hn129_1; clear hn129_2; replace p129 := eq_true p129; replace q129 := eq_true q129)); try go_wp2_with (first | ((with_reducible refine gate_dst (N := 15) rfl ?_); refine box_event ?hg (N := 15) ?hd (cs := #[.int .i64 0, .int .i64 0, .int .i64 0]) (t := 67) ?hr ?_; (case hd => rfl); (case hg => rfl); (case hr => first | (go_simp; done) | (go_simp; rfl)); intro gb127 hg w76 hbox hb; have n0_ := Aside0.mk (Kd.R_below (by (with_reducible repeat (first | apply Kd.R_alloc | apply Kd.R_drewN | apply Kd.R_drew)); exact HO_8.out) hb); have n1_ := Aside0.mk (below_step (by repeat (first | (with_reducible first | exact HB.out | apply below_alloc | apply pw_below_drewN | apply below_drew1) | exact HB.out)) hb); have n2_ := Aside0.mk (hbox); have n3_ := Aside0.mk ((by rw [hg]; exact (below_size (by repeat (first | (with_reducible first | exact HB.out | apply below_alloc | apply pw_below_drewN | apply below_drew1) | exact HB.out))) : w.heap.size ≤ gb127)); have n4_ := Aside0.mk ((by rw [hg]; exact (below_size (by repeat (first | (with_reducible first | exact HB.out | apply below_alloc | apply pw_below_drewN | apply below_drew1) | exact HB.out))) : w.heap.size ≤ gb127)); clear HO_8; clear HB; have HO_8 := n0_; have HB := n1_; have BK127 := n2_; have GW127 := n3_; have GE127 := n4_; clear n0_ n1_ n2_ n3_ n4_; clear hb hbox hg; have hcz77_0 : w76.cell? ⟨gb127, 0, none⟩ = some (.int .i64 0) := (blk_cell BK127.out 0).trans rfl; have hcz77_1 : w76.cell? ⟨gb127, 1, none⟩ = some (.int .i64 0) := (blk_cell BK127.out 1).trans rfl; have hcz77_2 : w76.cell? ⟨gb127, 2, none⟩ = some (.int .i64 0) := (blk_cell BK127.out 2).trans rfl; have hfz77_0 := blk_frozen BK127.out 0; have hfz77_1 := blk_frozen BK127.out 1; have hfz77_2 := blk_frozen BK127.out 2; have p128 : 0 ≤ (((rd_T67 l2 x106_3).f0) : Int) := of_decide_eq_true (by first | (with_reducible assumption) | assumption); have q128 : ((rd_T67 l2 x106_3).f0) < (x8_2.length : Int) := of_decide_eq_true (by first | (with_reducible assumption) | assumption); obtain ⟨ad128, e128, hx128_0⟩ := Kd.at_int (Kd.R_reads' HO_8.out).2.2 ((rd_T67 l2 x106_3).f0) p128 q128; obtain rfl : (⟨go17, 0, none⟩ : Addr) = ad128 := (by injection e128); (first | simp only [add_plain] at hx128_0 | simp only [add_at] at hx128_0 | simp only [Addr.add, Nat.zero_add] at hx128_0 | skip); have hn128_0 : (⟨go17, 0, none⟩ : Addr).block ≠ gb127 := Kd.own_blk (Kd.R_ne HO_8.out BK127.out (by decide)); have hn128_1 : (⟨go17, 0, none⟩ : Addr).block ≠ gb127 := Kd.own_blk (Kd.R_ne HO_8.out BK127.out (by decide)); have hn128_2 : (⟨go17, 0, none⟩ : Addr).block ≠ gb127 := Kd.own_blk (Kd.R_ne HO_8.out BK127.out (by decide)); replace hx128_0 := (cell_far (p := ⟨gb127, 0, none⟩) (by first | (rw [add_block]; exact hn128_0) | (show (Addr.add _ _).block ≠ _; rw [add_block]; exact hn128_0) | exact hn128_0) (.int .i64 ((rd_T67 l2 x106_3).f0))).trans hx128_0; replace hx128_0 := (cell_far (p := ⟨gb127, 1, none⟩) (by first | (rw [add_block]; exact hn128_1) | (show (Addr.add _ _).block ≠ _; rw [add_block]; exact hn128_1) | exact hn128_1) (.int .i64 ((rd_T67 l2 x106_3).f1))).trans hx128_0; replace hx128_0 := (cell_far (p := ⟨gb127, 2, none⟩) (by first | (rw [add_block]; exact hn128_2) | (show (Addr.add _ _).block ≠ _; rw [add_block]; exact hn128_2) | exact hn128_2) (.int .i64 ((rd_T67 l2 x106_3).f2))).trans hx128_0; (try have hy128_0 := fun (n_ : Nat) => (show (((((w76.drewN n_).setCell ⟨gb127, 0, none⟩ (.int .i64 ((rd_T67 l2 x106_3).f0))).setCell ⟨gb127, 1, none⟩ (.int .i64 ((rd_T67 l2 x106_3).f1))).setCell ⟨gb127, 2, none⟩ (.int .i64 ((rd_T67 l2 x106_3).f2)))).cell? _ = some _ from hx128_0)); clear hn128_0; clear hn128_1; clear hn128_2; replace p128 := eq_true p128; replace q128 := eq_true q128; have p129 : 0 ≤ (((rd_T67 l2 x106_3).f0) : Int) := of_decide_eq_true (by first | (with_reducible assumption) | assumption); have q129 : ((rd_T67 l2 x106_3).f0) < (x8_2.length : Int) := of_decide_eq_true (by first | (with_reducible assumption) | assumption); obtain ⟨ad129, e129, hx129_0⟩ := Kd.at_int (Kd.R_reads' HO_8.out).2.2 ((rd_T67 l2 x106_3).f0) p129 q129; obtain rfl : (⟨go17, 0, none⟩ : Addr) = ad129 := (by injection e129); (first | simp only [add_plain] at hx129_0 | simp only [add_at] at hx129_0 | simp only [Addr.add, Nat.zero_add] at hx129_0 | skip); have hn129_0 : (⟨go17, 0, none⟩ : Addr).block ≠ gb127 := Kd.own_blk (Kd.R_ne HO_8.out BK127.out (by decide)); have hn129_1 : (⟨go17, 0, none⟩ : Addr).block ≠ gb127 := Kd.own_blk (Kd.R_ne HO_8.out BK127.out (by decide)); have hn129_2 : (⟨go17, 0, none⟩ : Addr).block ≠ gb127 := Kd.own_blk (Kd.R_ne HO_8.out BK127.out (by decide)); replace hx129_0 := (cell_far (p := ⟨gb127, 0, none⟩) (by first | (rw [add_block]; exact hn129_0) | (show (Addr.add _ _).block ≠ _; rw [add_block]; exact hn129_0) | exact hn129_0) (.int .i64 ((rd_T67 l2 x106_3).f0))).trans hx129_0; replace hx129_0 := (cell_far (p := ⟨gb127, 1, none⟩) (by first | (rw [add_block]; exact hn129_1) | (show (Addr.add _ _).block ≠ _; rw [add_block]; exact hn129_1) | exact hn129_1) (.int .i64 ((rd_T67 l2 x106_3).f1))).trans hx129_0; replace hx129_0 := (cell_far (p := ⟨gb127, 2, none⟩) (by first | (rw [add_block]; exact hn129_2) | (show (Addr.add _ _).block ≠ _; rw [add_block]; exact hn129_2) | exact hn129_2) (.int .i64 ((rd_T67 l2 x106_3).f2))).trans hx129_0; (try have hy129_0 := fun (n_ : Nat) => (show (((((w76.drewN n_).setCell ⟨gb127, 0, none⟩ (.int .i64 ((rd_T67 l2 x106_3).f0))).setCell ⟨gb127, 1, none⟩ (.int .i64 ((rd_T67 l2 x106_3).f1))).setCell ⟨gb127, 2, none⟩ (.int .i64 ((rd_T67 l2 x106_3).f2)))).cell? _ = some _ from hx129_0)); clear hn129_0; clear hn129_1; clear hn129_2; replace p129 := eq_true p129; replace q129 := eq_true q129)))
                                        go_ret2
                                        exact ⟨_, by first | rfl | (simp [errW_none, errW_some] <;> rfl) | (simp [*, errW_none, errW_some] <;> rfl), by first | exact Kd.R_nil _ _ _ _ _ | exact Kd.N_nil _ _ _ _ _ | exact Kd.V_nil _ _ _ _ _ | exact Kd.Q_nil _ _ _ _ _ | exact Kd.S_nil _ _ _ _ _, by repeat (first | (with_reducible first | exact HB.out | apply below_alloc | apply pw_below_drewN | apply below_drew1 | refine below_set ?_ GE127.out) | exact HB.out)⟩
                                      · rw [if_neg c75] at H
                                        have c75b0 : decide (((rd_T67 l2 x106_3).f2) < (rd x8_2 ((rd_T67 l2 x106_3).f0))) = false := decide_eq_false c75
                                        (try (have c75b0h := c75b0; simp only [hl8_1, hl8_2] at c75b0h))
                                        clear c75
                                        have H' := Aside0.mk H
                                        clear H
                                        have p126 : 0 ≤ (x106_3 : Int) := of_decide_eq_true (by first | (with_reducible assumption) | assumption)
                                        have q126 : x106_3 < (l2.length : Int) := of_decide_eq_true (by first | (with_reducible assumption) | assumption)
                                        obtain ⟨ad126, e126, hx126_0, hx126_1, hx126_2⟩ := at_T67 HR2.out x106_3 p126 q126
                                        cases e126
                                        replace hx126_0 := (HB.out.cell (World.block_lt_of_cell? w _ hx126_0)).trans hx126_0
                                        replace hx126_1 := (HB.out.cell (World.block_lt_of_cell? w _ hx126_1)).trans hx126_1
                                        replace hx126_2 := (HB.out.cell (World.block_lt_of_cell? w _ hx126_2)).trans hx126_2
                                        replace p126 := eq_true p126
                                        replace q126 := eq_true q126
                                        go_wp2_with (first | ((with_reducible refine gate_dst (N := 15) rfl ?_); refine box_event ?hg (N := 15) ?hd (cs := #[.int .i64 0, .int .i64 0, .int .i64 0]) (t := 67) ?hr ?_; (case hd => rfl); (case hg => rfl); (case hr => first | (go_simp; done) | (go_simp; rfl)); intro gb127 hg w78 hbox hb; have n0_ := Aside0.mk (Kd.R_below (by (with_reducible repeat (first | apply Kd.R_alloc | apply Kd.R_drewN | apply Kd.R_drew)); exact HO_8.out) hb); have n1_ := Aside0.mk (below_step (by repeat (first | (with_reducible first | exact HB.out | apply below_alloc | apply pw_below_drewN | apply below_drew1) | exact HB.out)) hb); have n2_ := Aside0.mk (hbox); have n3_ := Aside0.mk ((by rw [hg]; exact (below_size (by repeat (first | (with_reducible first | exact HB.out | apply below_alloc | apply pw_below_drewN | apply below_drew1) | exact HB.out))) : w.heap.size ≤ gb127)); have n4_ := Aside0.mk ((by rw [hg]; exact (below_size (by repeat (first | (with_reducible first | exact HB.out | apply below_alloc | apply pw_below_drewN | apply below_drew1) | exact HB.out))) : w.heap.size ≤ gb127)); clear HO_8; clear HB; have HO_8 := n0_; have HB := n1_; have BK127 := n2_; have GW127 := n3_; have GE127 := n4_; clear n0_ n1_ n2_ n3_ n4_; clear hb hbox hg; have hcz79_0 : w78.cell? ⟨gb127, 0, none⟩ = some (.int .i64 0) := (blk_cell BK127.out 0).trans rfl; have hcz79_1 : w78.cell? ⟨gb127, 1, none⟩ = some (.int .i64 0) := (blk_cell BK127.out 1).trans rfl; have hcz79_2 : w78.cell? ⟨gb127, 2, none⟩ = some (.int .i64 0) := (blk_cell BK127.out 2).trans rfl; have hfz79_0 := blk_frozen BK127.out 0; have hfz79_1 := blk_frozen BK127.out 1; have hfz79_2 := blk_frozen BK127.out 2; have p128 : 0 ≤ (((rd_T67 l2 x106_3).f0) : Int) := of_decide_eq_true (by first | (with_reducible assumption) | assumption); have q128 : ((rd_T67 l2 x106_3).f0) < (x8_2.length : Int) := of_decide_eq_true (by first | (with_reducible assumption) | assumption); obtain ⟨ad128, e128, hx128_0⟩ := Kd.at_int (Kd.R_reads' HO_8.out).2.2 ((rd_T67 l2 x106_3).f0) p128 q128; obtain rfl : (⟨go17, 0, none⟩ : Addr) = ad128 := (by injection e128); (first | simp only [add_plain] at hx128_0 | simp only [add_at] at hx128_0 | simp only [Addr.add, Nat.zero_add] at hx128_0 | skip); have hn128_0 : (⟨go17, 0, none⟩ : Addr).block ≠ gb127 := Kd.own_blk (Kd.R_ne HO_8.out BK127.out (by decide)); have hn128_1 : (⟨go17, 0, none⟩ : Addr).block ≠ gb127 := Kd.own_blk (Kd.R_ne HO_8.out BK127.out (by decide)); have hn128_2 : (⟨go17, 0, none⟩ : Addr).block ≠ gb127 := Kd.own_blk (Kd.R_ne HO_8.out BK127.out (by decide)); replace hx128_0 := (cell_far (p := ⟨gb127, 0, none⟩) (by first | (rw [add_block]; exact hn128_0) | (show (Addr.add _ _).block ≠ _; rw [add_block]; exact hn128_0) | exact hn128_0) (.int .i64 ((rd_T67 l2 x106_3).f0))).trans hx128_0; replace hx128_0 := (cell_far (p := ⟨gb127, 1, none⟩) (by first | (rw [add_block]; exact hn128_1) | (show (Addr.add _ _).block ≠ _; rw [add_block]; exact hn128_1) | exact hn128_1) (.int .i64 ((rd_T67 l2 x106_3).f1))).trans hx128_0; replace hx128_0 := (cell_far (p := ⟨gb127, 2, none⟩) (by first | (rw [add_block]; exact hn128_2) | (show (Addr.add _ _).block ≠ _; rw [add_block]; exact hn128_2) | exact hn128_2) (.int .i64 ((rd_T67 l2 x106_3).f2))).trans hx128_0; (try have hy128_0 := fun (n_ : Nat) => (show (((((w78.drewN n_).setCell ⟨gb127, 0, none⟩ (.int .i64 ((rd_T67 l2 x106_3).f0))).setCell ⟨gb127, 1, none⟩ (.int .i64 ((rd_T67 l2 x106_3).f1))).setCell ⟨gb127, 2, none⟩ (.int .i64 ((rd_T67 l2 x106_3).f2)))).cell? _ = some _ from hx128_0)); clear hn128_0; clear hn128_1; clear hn128_2; replace p128 := eq_true p128; replace q128 := eq_true q128; have p129 : 0 ≤ (((rd_T67 l2 x106_3).f0) : Int) := of_decide_eq_true (by first | (with_reducible assumption) | assumption); have q129 : ((rd_T67 l2 x106_3).f0) < (x8_2.length : Int) := of_decide_eq_true (by first | (with_reducible assumption) | assumption); obtain ⟨ad129, e129, hx129_0⟩ := Kd.at_int (Kd.R_reads' HO_8.out).2.2 ((rd_T67 l2 x106_3).f0) p129 q129; obtain rfl : (⟨go17, 0, none⟩ : Addr) = ad129 := (by injection e129); (first | simp only [add_plain] at hx129_0 | simp only [add_at] at hx129_0 | simp only [Addr.add, Nat.zero_add] at hx129_0 | skip); have hn129_0 : (⟨go17, 0, none⟩ : Addr).block ≠ gb127 := Kd.own_blk (Kd.R_ne HO_8.out BK127.out (by decide)); have hn129_1 : (⟨go17, 0, none⟩ : Addr).block ≠ gb127 := Kd.own_blk (Kd.R_ne HO_8.out BK127.out (by decide)); have hn129_2 : (⟨go17, 0, none⟩ : Addr).block ≠ gb127 := Kd.own_blk (Kd.R_ne HO_8.out BK127.out (by decide)); replace hx129_0 := (cell_far (p := ⟨gb127, 0, none⟩) (by first | (rw [add_block]; exact hn129_0) | (show (Addr.add _ _).block ≠ _; rw [add_block]; exact hn129_0) | exact hn129_0) (.int .i64 ((rd_T67 l2 x106_3).f0))).trans hx129_0; replace hx129_0 := (cell_far (p := ⟨gb127, 1, none⟩) (by first | (rw [add_block]; exact hn129_1) | (show (Addr.add _ _).block ≠ _; rw [add_block]; exact hn129_1) | exact hn129_1) (.int .i64 ((rd_T67 l2 x106_3).f1))).trans hx129_0; replace hx129_0 := (cell_far (p := ⟨gb127, 2, none⟩) (by first | (rw [add_block]; exact hn129_2) | (show (Addr.add _ _).block ≠ _; rw [add_block]; exact hn129_2) | exact hn129_2) (.int .i64 ((rd_T67 l2 x106_3).f2))).trans hx129_0; (try have hy129_0 := fun (n_ : Nat) => (show (((((w78.drewN n_).setCell ⟨gb127, 0, none⟩ (.int .i64 ((rd_T67 l2 x106_3).f0))).setCell ⟨gb127, 1, none⟩ (.int .i64 ((rd_T67 l2 x106_3).f1))).setCell ⟨gb127, 2, none⟩ (.int .i64 ((rd_T67 l2 x106_3).f2)))).cell? _ = some _ from hx129_0)); clear hn129_0; clear hn129_1; clear hn129_2; replace p129 := eq_true p129; replace q129 := eq_true q129))
                                        repeat (go_quiet (first | ((with_reducible refine gate_dst (N := 15) rfl ?_); refine box_event ?hg (N := 15) ?hd (cs := #[.int .i64 0, .int .i64 0, .int .i64 0]) (t := 67) ?hr ?_; (case hd => rfl); (case hg => rfl); (case hr => first | (go_simp; done) | (go_simp; rfl)); intro gb127 hg w78 hbox hb; have n0_ := Aside0.mk (Kd.R_below (by (with_reducible repeat (first | apply Kd.R_alloc | apply Kd.R_drewN | apply Kd.R_drew)); exact HO_8.out) hb); have n1_ := Aside0.mk (below_step (by repeat (first | (with_reducible first | exact HB.out | apply below_alloc | apply pw_below_drewN | apply below_drew1) | exact HB.out)) hb); have n2_ := Aside0.mk (hbox); have n3_ := Aside0.mk ((by rw [hg]; exact (below_size (by repeat (first | (with_reducible first | exact HB.out | apply below_alloc | apply pw_below_drewN | apply below_drew1) | exact HB.out))) : w.heap.size ≤ gb127)); have n4_ := Aside0.mk ((by rw [hg]; exact (below_size (by repeat (first | (with_reducible first | exact HB.out | apply below_alloc | apply pw_below_drewN | apply below_drew1) | exact HB.out))) : w.heap.size ≤ gb127)); clear HO_8; clear HB; have HO_8 := n0_; have HB := n1_; have BK127 := n2_; have GW127 := n3_; have GE127 := n4_; clear n0_ n1_ n2_ n3_ n4_; clear hb hbox hg; have hcz79_0 : w78.cell? ⟨gb127, 0, none⟩ = some (.int .i64 0) := (blk_cell BK127.out 0).trans rfl; have hcz79_1 : w78.cell? ⟨gb127, 1, none⟩ = some (.int .i64 0) := (blk_cell BK127.out 1).trans rfl; have hcz79_2 : w78.cell? ⟨gb127, 2, none⟩ = some (.int .i64 0) := (blk_cell BK127.out 2).trans rfl; have hfz79_0 := blk_frozen BK127.out 0; have hfz79_1 := blk_frozen BK127.out 1; have hfz79_2 := blk_frozen BK127.out 2; have p128 : 0 ≤ (((rd_T67 l2 x106_3).f0) : Int) := of_decide_eq_true (by first | (with_reducible assumption) | assumption); have q128 : ((rd_T67 l2 x106_3).f0) < (x8_2.length : Int) := of_decide_eq_true (by first | (with_reducible assumption) | assumption); obtain ⟨ad128, e128, hx128_0⟩ := Kd.at_int (Kd.R_reads' HO_8.out).2.2 ((rd_T67 l2 x106_3).f0) p128 q128; obtain rfl : (⟨go17, 0, none⟩ : Addr) = ad128 := (by injection e128); (first | simp only [add_plain] at hx128_0 | simp only [add_at] at hx128_0 | simp only [Addr.add, Nat.zero_add] at hx128_0 | skip); have hn128_0 : (⟨go17, 0, none⟩ : Addr).block ≠ gb127 := Kd.own_blk (Kd.R_ne HO_8.out BK127.out (by decide)); have hn128_1 : (⟨go17, 0, none⟩ : Addr).block ≠ gb127 := Kd.own_blk (Kd.R_ne HO_8.out BK127.out (by decide)); have hn128_2 : (⟨go17, 0, none⟩ : Addr).block ≠ gb127 := Kd.own_blk (Kd.R_ne HO_8.out BK127.out (by decide)); replace hx128_0 := (cell_far (p := ⟨gb127, 0, none⟩) (by first | (rw [add_block]; exact hn128_0) | (show (Addr.add _ _).block ≠ _; rw [add_block]; exact hn128_0) | exact hn128_0) (.int .i64 ((rd_T67 l2 x106_3).f0))).trans hx128_0; replace hx128_0 := (cell_far (p := ⟨gb127, 1, none⟩) (by first | (rw [add_block]; exact hn128_1) | (show (Addr.add _ _).block ≠ _; rw [add_block]; exact hn128_1) | exact hn128_1) (.int .i64 ((rd_T67 l2 x106_3).f1))).trans hx128_0; replace hx128_0 := (cell_far (p := ⟨gb127, 2, none⟩) (by first | (rw [add_block]; exact hn128_2) | (show (Addr.add _ _).block ≠ _; rw [add_block]; exact hn128_2) | exact hn128_2) (.int .i64 ((rd_T67 l2 x106_3).f2))).trans hx128_0; (try have hy128_0 := fun (n_ : Nat) => (show (((((w78.drewN n_).setCell ⟨gb127, 0, none⟩ (.int .i64 ((rd_T67 l2 x106_3).f0))).setCell ⟨gb127, 1, none⟩ (.int .i64 ((rd_T67 l2 x106_3).f1))).setCell ⟨gb127, 2, none⟩ (.int .i64 ((rd_T67 l2 x106_3).f2)))).cell? _ = some _ from hx128_0)); clear hn128_0; clear hn128_1; clear hn128_2; replace p128 := eq_true p128; replace q128 := eq_true q128; have p129 : 0 ≤ (((rd_T67 l2 x106_3).f0) : Int) := of_decide_eq_true (by first | (with_reducible assumption) | assumption); have q129 : ((rd_T67 l2 x106_3).f0) < (x8_2.length : Int) := of_decide_eq_true (by first | (with_reducible assumption) | assumption); obtain ⟨ad129, e129, hx129_0⟩ := Kd.at_int (Kd.R_reads' HO_8.out).2.2 ((rd_T67 l2 x106_3).f0) p129 q129; obtain rfl : (⟨go17, 0, none⟩ : Addr) = ad129 := (by injection e129); (first | simp only [add_plain] at hx129_0 | simp only [add_at] at hx129_0 | simp only [Addr.add, Nat.zero_add] at hx129_0 | skip); have hn129_0 : (⟨go17, 0, none⟩ : Addr).block ≠ gb127 := Kd.own_blk (Kd.R_ne HO_8.out BK127.out (by decide)); have hn129_1 : (⟨go17, 0, none⟩ : Addr).block ≠ gb127 := Kd.own_blk (Kd.R_ne HO_8.out BK127.out (by decide)); have hn129_2 : (⟨go17, 0, none⟩ : Addr).block ≠ gb127 := Kd.own_blk (Kd.R_ne HO_8.out BK127.out (by decide)); replace hx129_0 := (cell_far (p := ⟨gb127, 0, none⟩) (by first | (rw [add_block]; exact hn129_0) | (show (Addr.add _ _).block ≠ _; rw [add_block]; exact hn129_0) | exact hn129_0) (.int .i64 ((rd_T67 l2 x106_3).f0))).trans hx129_0; replace hx129_0 := (cell_far (p := ⟨gb127, 1, none⟩) (by first | (rw [add_block]; exact hn129_1) | (show (Addr.add _ _).block ≠ _; rw [add_block]; exact hn129_1) | exact hn129_1) (.int .i64 ((rd_T67 l2 x106_3).f1))).trans hx129_0; replace hx129_0 := (cell_far (p := ⟨gb127, 2, none⟩) (by first | (rw [add_block]; exact hn129_2) | (show (Addr.add _ _).block ≠ _; rw [add_block]; exact hn129_2) | exact hn129_2) (.int .i64 ((rd_T67 l2 x106_3).f2))).trans hx129_0; (try have hy129_0 := fun (n_ : Nat) => (show (((((w78.drewN n_).setCell ⟨gb127, 0, none⟩ (.int .i64 ((rd_T67 l2 x106_3).f0))).setCell ⟨gb127, 1, none⟩ (.int .i64 ((rd_T67 l2 x106_3).f1))).setCell ⟨gb127, 2, none⟩ (.int .i64 ((rd_T67 l2 x106_3).f2)))).cell? _ = some _ from hx129_0)); clear hn129_0; clear hn129_1; clear hn129_2; replace p129 := eq_true p129; replace q129 := eq_true q129)); try go_wp2_with (first | ((with_reducible refine gate_dst (N := 15) rfl ?_); refine box_event ?hg (N := 15) ?hd (cs := #[.int .i64 0, .int .i64 0, .int .i64 0]) (t := 67) ?hr ?_; (case hd => rfl); (case hg => rfl); (case hr => first | (go_simp; done) | (go_simp; rfl)); intro gb127 hg w78 hbox hb; have n0_ := Aside0.mk (Kd.R_below (by (with_reducible repeat (first | apply Kd.R_alloc | apply Kd.R_drewN | apply Kd.R_drew)); exact HO_8.out) hb); have n1_ := Aside0.mk (below_step (by repeat (first | (with_reducible first | exact HB.out | apply below_alloc | apply pw_below_drewN | apply below_drew1) | exact HB.out)) hb); have n2_ := Aside0.mk (hbox); have n3_ := Aside0.mk ((by rw [hg]; exact (below_size (by repeat (first | (with_reducible first | exact HB.out | apply below_alloc | apply pw_below_drewN | apply below_drew1) | exact HB.out))) : w.heap.size ≤ gb127)); have n4_ := Aside0.mk ((by rw [hg]; exact (below_size (by repeat (first | (with_reducible first | exact HB.out | apply below_alloc | apply pw_below_drewN | apply below_drew1) | exact HB.out))) : w.heap.size ≤ gb127)); clear HO_8; clear HB; have HO_8 := n0_; have HB := n1_; have BK127 := n2_; have GW127 := n3_; have GE127 := n4_; clear n0_ n1_ n2_ n3_ n4_; clear hb hbox hg; have hcz79_0 : w78.cell? ⟨gb127, 0, none⟩ = some (.int .i64 0) := (blk_cell BK127.out 0).trans rfl; have hcz79_1 : w78.cell? ⟨gb127, 1, none⟩ = some (.int .i64 0) := (blk_cell BK127.out 1).trans rfl; have hcz79_2 : w78.cell? ⟨gb127, 2, none⟩ = some (.int .i64 0) := (blk_cell BK127.out 2).trans rfl; have hfz79_0 := blk_frozen BK127.out 0; have hfz79_1 := blk_frozen BK127.out 1; have hfz79_2 := blk_frozen BK127.out 2; have p128 : 0 ≤ (((rd_T67 l2 x106_3).f0) : Int) := of_decide_eq_true (by first | (with_reducible assumption) | assumption); have q128 : ((rd_T67 l2 x106_3).f0) < (x8_2.length : Int) := of_decide_eq_true (by first | (with_reducible assumption) | assumption); obtain ⟨ad128, e128, hx128_0⟩ := Kd.at_int (Kd.R_reads' HO_8.out).2.2 ((rd_T67 l2 x106_3).f0) p128 q128; obtain rfl : (⟨go17, 0, none⟩ : Addr) = ad128 := (by injection e128); (first | simp only [add_plain] at hx128_0 | simp only [add_at] at hx128_0 | simp only [Addr.add, Nat.zero_add] at hx128_0 | skip); have hn128_0 : (⟨go17, 0, none⟩ : Addr).block ≠ gb127 := Kd.own_blk (Kd.R_ne HO_8.out BK127.out (by decide)); have hn128_1 : (⟨go17, 0, none⟩ : Addr).block ≠ gb127 := Kd.own_blk (Kd.R_ne HO_8.out BK127.out (by decide)); have hn128_2 : (⟨go17, 0, none⟩ : Addr).block ≠ gb127 := Kd.own_blk (Kd.R_ne HO_8.out BK127.out (by decide)); replace hx128_0 := (cell_far (p := ⟨gb127, 0, none⟩) (by first | (rw [add_block]; exact hn128_0) | (show (Addr.add _ _).block ≠ _; rw [add_block]; exact hn128_0) | exact hn128_0) (.int .i64 ((rd_T67 l2 x106_3).f0))).trans hx128_0; replace hx128_0 := (cell_far (p := ⟨gb127, 1, none⟩) (by first | (rw [add_block]; exact hn128_1) | (show (Addr.add _ _).block ≠ _; rw [add_block]; exact hn128_1) | exact hn128_1) (.int .i64 ((rd_T67 l2 x106_3).f1))).trans hx128_0; replace hx128_0 := (cell_far (p := ⟨gb127, 2, none⟩) (by first | (rw [add_block]; exact hn128_2) | (show (Addr.add _ _).block ≠ _; rw [add_block]; exact hn128_2) | exact hn128_2) (.int .i64 ((rd_T67 l2 x106_3).f2))).trans hx128_0; (try have hy128_0 := fun (n_ : Nat) => (show (((((w78.drewN n_).setCell ⟨gb127, 0, none⟩ (.int .i64 ((rd_T67 l2 x106_3).f0))).setCell ⟨gb127, 1, none⟩ (.int .i64 ((rd_T67 l2 x106_3).f1))).setCell ⟨gb127, 2, none⟩ (.int .i64 ((rd_T67 l2 x106_3).f2)))).cell? _ = some _ from hx128_0)); clear hn128_0; clear hn128_1; clear hn128_2; replace p128 := eq_true p128; replace q128 := eq_true q128; have p129 : 0 ≤ (((rd_T67 l2 x106_3).f0) : Int) := of_decide_eq_true (by first | (with_reducible assumption) | assumption); have q129 : ((rd_T67 l2 x106_3).f0) < (x8_2.length : Int) := of_decide_eq_true (by first | (with_reducible assumption) | assumption); obtain ⟨ad129, e129, hx129_0⟩ := Kd.at_int (Kd.R_reads' HO_8.out).2.2 ((rd_T67 l2 x106_3).f0) p129 q129; obtain rfl : (⟨go17, 0, none⟩ : Addr) = ad129 := (by injection e129); (first | simp only [add_plain] at hx129_0 | simp only [add_at] at hx129_0 | simp only [Addr.add, Nat.zero_add] at hx129_0 | skip); have hn129_0 : (⟨go17, 0, none⟩ : Addr).block ≠ gb127 := Kd.own_blk (Kd.R_ne HO_8.out BK127.out (by decide)); have hn129_1 : (⟨go17, 0, none⟩ : Addr).block ≠ gb127 := Kd.own_blk (Kd.R_ne HO_8.out BK127.out (by decide)); have hn129_2 : (⟨go17, 0, none⟩ : Addr).block ≠ gb127 := Kd.own_blk (Kd.R_ne HO_8.out BK127.out (by decide)); replace hx129_0 := (cell_far (p := ⟨gb127, 0, none⟩) (by first | (rw [add_block]; exact hn129_0) | (show (Addr.add _ _).block ≠ _; rw [add_block]; exact hn129_0) | exact hn129_0) (.int .i64 ((rd_T67 l2 x106_3).f0))).trans hx129_0; replace hx129_0 := (cell_far (p := ⟨gb127, 1, none⟩) (by first | (rw [add_block]; exact hn129_1) | (show (Addr.add _ _).block ≠ _; rw [add_block]; exact hn129_1) | exact hn129_1) (.int .i64 ((rd_T67 l2 x106_3).f1))).trans hx129_0; replace hx129_0 := (cell_far (p := ⟨gb127, 2, none⟩) (by first | (rw [add_block]; exact hn129_2) | (show (Addr.add _ _).block ≠ _; rw [add_block]; exact hn129_2) | exact hn129_2) (.int .i64 ((rd_T67 l2 x106_3).f2))).trans hx129_0; (try have hy129_0 := fun (n_ : Nat) => (show (((((w78.drewN n_).setCell ⟨gb127, 0, none⟩ (.int .i64 ((rd_T67 l2 x106_3).f0))).setCell ⟨gb127, 1, none⟩ (.int .i64 ((rd_T67 l2 x106_3).f1))).setCell ⟨gb127, 2, none⟩ (.int .i64 ((rd_T67 l2 x106_3).f2)))).cell? _ = some _ from hx129_0)); clear hn129_0; clear hn129_1; clear hn129_2; replace p129 := eq_true p129; replace q129 := eq_true q129)))
                                        go_roundg k3
                                        case measure => have := HK1.out; have := HK2.out; have := HK3.out; omega
                                        case rel => exact ⟨(wrap64 (x106_3 + 1)), (by first | rfl | (simp; done) | (simp [*]; done)), H', ⟨by have := HK1.out; have := HK2.out; have := HK3.out; omega⟩, ⟨by (try simp only [hl8_1]); (try simp only [hl8_2]); (with_reducible repeat (first | apply Kd.R_alloc | apply Kd.R_drewN | apply Kd.R_drew)); exact Kd.R_mono (Kd.R_far (p := ⟨gb127, 2, none⟩) (Kd.R_far (p := ⟨gb127, 1, none⟩) (Kd.R_far (p := ⟨gb127, 0, none⟩) (Kd.R_types HO_8.out BK127.out (by decide)) (fun _ hk => hk.2) (.int .i64 ((rd_T67 l2 x106_3).f0))) (fun _ hk => hk.2) (.int .i64 ((rd_T67 l2 x106_3).f1))) (fun _ hk => hk.2) (.int .i64 ((rd_T67 l2 x106_3).f2))) (fun _ hk => trivial)⟩, ⟨by repeat (first | (with_reducible first | exact HB.out | apply below_alloc | apply pw_below_drewN | apply below_drew1 | refine below_set ?_ GE127.out) | exact HB.out)⟩⟩
                                  · rw [if_neg c71] at H
                                    exact absurd H (by simp)
                                · rw [if_neg c70] at H
                                  exact absurd H (by simp)
                              · rw [if_neg c69] at H
                                exact absurd H (by simp)
                            · rw [if_neg c68] at H
                              exact absurd H (by simp)
                          · rw [if_neg c67] at H
                            have c67b0 : decide (x106_3 < (l2.length : Int)) = false := decide_eq_false c67
                            (try (have c67b0h := c67b0; simp only [hl8_1, hl8_2] at c67b0h))
                            clear c67
                            simp only [Option.some.injEq, Prod.mk.injEq] at H
                            obtain ⟨rfl, rfl⟩ := H
                            go_wp2
                            repeat (go_quiet (fail); try go_wp2)
                            go_ret2
                            exact ⟨_, by first | rfl | (simp [errW_none, errW_some] <;> rfl) | (simp [*, errW_none, errW_some] <;> rfl), by (with_reducible repeat (first | apply Kd.R_alloc | apply Kd.R_drewN | apply Kd.R_drew)); exact HO_8.out, by repeat (first | (with_reducible first | exact HB.out | apply below_alloc | apply pw_below_drewN | apply below_drew1) | exact HB.out)⟩
              · rw [if_neg c16] at H
                exact absurd H (by simp)
      · rw [if_neg c6] at H
        exact absurd H (by simp)
    · rw [if_neg c5] at H
      exact absurd H (by simp)

end Go.Proofs.Ytelhcooeafhgoaa.PFnExactSentBy
