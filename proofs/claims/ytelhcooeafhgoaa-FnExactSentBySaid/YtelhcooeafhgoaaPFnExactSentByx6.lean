-- Written by a program of this claim, over the kit's print: the functions that a law reaches, their plain forms and the walks.
import Derived.Test.YtelhcooeafhgoaaPFnExactSentByx0
import Derived.Test.YtelhcooeafhgoaaPFnExactSentByx5
namespace Go.Proofs.Ytelhcooeafhgoaa.PFnExactSentBy
open Go.RowKit Go.Proofs.YtelhcooeafhgoaaW.PrintWords Go.Proofs.YtelhcooeafhgoaaW.PrintLast Go.Proofs.YtelhcooeafhgoaaW.PrintMore
attribute [local go_sem] max2_int min2_int max_two min_two max_three min_three max_four min_four   -- for this text's walks alone
set_option linter.unusedVariables false
set_option linter.unusedSimpArgs false

/-! ### impl_arrivals: function 120 -/
mutual
def impl_arrivals.l0 : Nat → Int → Int → List (S67) → List Int → List (S67) → Int → Int → Option (List Int × Bool)
  | 0, _, _, _, _, _, _, _ => none
  | k + 1, x0, x1, x2, x8, x21, x22, x23 => if x23 < x22 then (if 0 ≤ x23 then (if x23 < (x21.length : Int) then ((impl_within.f ((rd_T67 x21 x23).f0) 0 (wrap64 (x1 - 1))).bind fun t245 => (if t245 = true then ((impl_within.f ((rd_T67 x21 x23).f1) 1 (wrap64 (x1 - 1))).bind fun t246 => (if t246 = true then (if ((rd_T67 x21 x23).f0) = ((rd_T67 x21 x23).f1) then (impl_arrivals.j1 k x0 x1 x2 x8 x23 x21 x22 x23 true ((rd_T67 x21 x23).f0) ((rd_T67 x21 x23).f1) ((rd_T67 x21 x23).f2)) else ((impl_isMinute.f ((rd_T67 x21 x23).f2)).bind fun t247 => (if t247 = true then (if 0 ≤ ((rd_T67 x21 x23).f1) then (if ((rd_T67 x21 x23).f1) < (x8.length : Int) then (impl_arrivals.j1 k x0 x1 x2 x8 x23 x21 x22 x23 (decide ((rd x8 ((rd_T67 x21 x23).f1)) ≥ 0)) ((rd_T67 x21 x23).f0) ((rd_T67 x21 x23).f1) ((rd_T67 x21 x23).f2)) else (none)) else (none)) else (impl_arrivals.j1 k x0 x1 x2 x8 x23 x21 x22 x23 true ((rd_T67 x21 x23).f0) ((rd_T67 x21 x23).f1) ((rd_T67 x21 x23).f2))))) else (impl_arrivals.j1 k x0 x1 x2 x8 x23 x21 x22 x23 true ((rd_T67 x21 x23).f0) ((rd_T67 x21 x23).f1) ((rd_T67 x21 x23).f2)))) else (impl_arrivals.j1 k x0 x1 x2 x8 x23 x21 x22 x23 true ((rd_T67 x21 x23).f0) ((rd_T67 x21 x23).f1) ((rd_T67 x21 x23).f2)))) else (none)) else (none)) else (impl_arrivals.l1 k x8 x2 (x2.length : Int) 0)
def impl_arrivals.j1 : Nat → Int → Int → List (S67) → List Int → Int → List (S67) → Int → Int → Bool → Int → Int → Int → Option (List Int × Bool)
  | 0, _, _, _, _, _, _, _, _, _, _, _, _ => none
  | k + 1, x0, x1, x2, x8, x9, x21, x22, x23, x62, x245000, x245001, x245002 => if x62 = true then (some (([] : List Int), false)) else (if 0 ≤ x9 then (if x9 ≤ (x2.length : Int) then ((impl_arrivals_1.f (x2.take (x9 : Int).toNat) x245000 x245001 x245002).bind fun t253 => (if t253 = true then (some (([] : List Int), false)) else (if 0 ≤ x245001 then (if x245001 < (x8.length : Int) then (impl_arrivals.l0 k x0 x1 x2 (x8.set (x245001 : Int).toNat (wrap64 (x245002 + x0))) x21 x22 (wrap64 (x23 + 1))) else (none)) else (none)))) else (none)) else (none))
def impl_arrivals.l1 : Nat → List Int → List (S67) → Int → Int → Option (List Int × Bool)
  | 0, _, _, _, _ => none
  | k + 1, x8, x77, x78, x79 => if x79 < x78 then (if 0 ≤ x79 then (if x79 < (x77.length : Int) then (if 0 ≤ ((rd_T67 x77 x79).f0) then (if ((rd_T67 x77 x79).f0) < (x8.length : Int) then (if (rd x8 ((rd_T67 x77 x79).f0)) < 0 then (some (([] : List Int), false)) else (if (rd x8 ((rd_T67 x77 x79).f0)) > ((rd_T67 x77 x79).f2) then (some (([] : List Int), false)) else (impl_arrivals.l1 k x8 x77 x78 (wrap64 (x79 + 1))))) else (none)) else (none)) else (none)) else (none)) else (some (x8, true))
end
def impl_arrivals.f (k : Nat) (a0 : Int) (a1 : Int) (l2 : List (S67)) : Option (List Int × Bool) := if (l2.length : Int) > 40 then (some (([] : List Int), false)) else ((slices_Repeat_int_int.f (([(-1)] : List Int)) a1).bind fun t239 => (if 0 < (t239.length : Int) then (impl_arrivals.l0 k a0 a1 l2 (t239.set (0 : Int).toNat 0) l2 (l2.length : Int) 0) else (none)))
theorem impl_arrivals.mono_l : ∀ k, (∀ y0 y1 y2 y3 y4 y5 y6, LeO (impl_arrivals.l0 k y0 y1 y2 y3 y4 y5 y6) (impl_arrivals.l0 (k + 1) y0 y1 y2 y3 y4 y5 y6)) ∧ (∀ y0 y1 y2 y3 y4 y5 y6 y7 y8 y9 y10 y11, LeO (impl_arrivals.j1 k y0 y1 y2 y3 y4 y5 y6 y7 y8 y9 y10 y11) (impl_arrivals.j1 (k + 1) y0 y1 y2 y3 y4 y5 y6 y7 y8 y9 y10 y11)) ∧ (∀ y0 y1 y2 y3, LeO (impl_arrivals.l1 k y0 y1 y2 y3) (impl_arrivals.l1 (k + 1) y0 y1 y2 y3))
  | 0 => ⟨fun _ _ _ _ _ _ _ r h => by simp [impl_arrivals.l0] at h, fun _ _ _ _ _ _ _ _ _ _ _ _ r h => by simp [impl_arrivals.j1] at h, fun _ _ _ _ r h => by simp [impl_arrivals.l1] at h⟩
  | k + 1 => by
    obtain ⟨ih0, ih1, ih2⟩ := impl_arrivals.mono_l k
    refine ⟨?_, ?_, ?_⟩
    · intro y0 y1 y2 y3 y4 y5 y6
      unfold impl_arrivals.l0
      repeat' first
      | (with_reducible exact ih0 _ _ _ _ _ _ _)
      | (with_reducible exact ih1 _ _ _ _ _ _ _ _ _ _ _ _)
      | (with_reducible exact ih2 _ _ _ _)
      | (with_reducible exact LeO.refl _)
      | (with_reducible exact LeO.none _)
      | (with_reducible refine LeO.ite ?_ ?_)
      | (with_reducible refine LeO.bind ?_ (fun _ => ?_))
      | exact ih0 _ _ _ _ _ _ _
      | exact ih1 _ _ _ _ _ _ _ _ _ _ _ _
      | exact ih2 _ _ _ _
      | exact LeO.none _
      | refine LeO.ite ?_ ?_
      | refine LeO.bind ?_ (fun _ => ?_)
    · intro y0 y1 y2 y3 y4 y5 y6 y7 y8 y9 y10 y11
      unfold impl_arrivals.j1
      repeat' first
      | (with_reducible exact ih0 _ _ _ _ _ _ _)
      | (with_reducible exact ih1 _ _ _ _ _ _ _ _ _ _ _ _)
      | (with_reducible exact ih2 _ _ _ _)
      | (with_reducible exact LeO.refl _)
      | (with_reducible exact LeO.none _)
      | (with_reducible refine LeO.ite ?_ ?_)
      | (with_reducible refine LeO.bind ?_ (fun _ => ?_))
      | exact ih0 _ _ _ _ _ _ _
      | exact ih1 _ _ _ _ _ _ _ _ _ _ _ _
      | exact ih2 _ _ _ _
      | exact LeO.none _
      | refine LeO.ite ?_ ?_
      | refine LeO.bind ?_ (fun _ => ?_)
    · intro y0 y1 y2 y3
      unfold impl_arrivals.l1
      repeat' first
      | (with_reducible exact ih0 _ _ _ _ _ _ _)
      | (with_reducible exact ih1 _ _ _ _ _ _ _ _ _ _ _ _)
      | (with_reducible exact ih2 _ _ _ _)
      | (with_reducible exact LeO.refl _)
      | (with_reducible exact LeO.none _)
      | (with_reducible refine LeO.ite ?_ ?_)
      | (with_reducible refine LeO.bind ?_ (fun _ => ?_))
      | exact ih0 _ _ _ _ _ _ _
      | exact ih1 _ _ _ _ _ _ _ _ _ _ _ _
      | exact ih2 _ _ _ _
      | exact LeO.none _
      | refine LeO.ite ?_ ?_
      | refine LeO.bind ?_ (fun _ => ?_)
theorem impl_arrivals.mono : ∀ a0 a1 a2 k, LeO (impl_arrivals.f k a0 a1 a2) (impl_arrivals.f (k + 1) a0 a1 a2) := by
  intro a0 a1 a2 k
  obtain ⟨ih0, ih1, ih2⟩ := impl_arrivals.mono_l k
  unfold impl_arrivals.f
  repeat' first
      | (with_reducible exact ih0 _ _ _ _ _ _ _)
      | (with_reducible exact ih1 _ _ _ _ _ _ _ _ _ _ _ _)
      | (with_reducible exact ih2 _ _ _ _)
      | (with_reducible exact LeO.refl _)
      | (with_reducible exact LeO.none _)
      | (with_reducible refine LeO.ite ?_ ?_)
      | (with_reducible refine LeO.bind ?_ (fun _ => ?_))
      | exact ih0 _ _ _ _ _ _ _
      | exact ih1 _ _ _ _ _ _ _ _ _ _ _ _
      | exact ih2 _ _ _ _
      | exact LeO.none _
      | refine LeO.ite ?_ ?_
      | refine LeO.bind ?_ (fun _ => ?_)
set_option maxHeartbeats 8000000 in
set_option maxRecDepth 100000 in
theorem impl_arrivals.calls (k : Nat) (a0 : Int) (a1 : Int) (A2 : Option Addr) (c2 : Nat) (l2 : List (S67)) (r1 : List Int) (r2 : Bool) (w : World) (hr2 : Kd.C k67 w A2 l2.length l2) (hc2 : l2.length ≤ c2) (h : impl_arrivals.f k a0 a1 l2 = some (r1, r2)) :
    Calls Try.prog 120 #[.int .i64 a0, .int .i64 a1, .slice A2 l2.length c2] w fun e w' => ∃ v0_ : Value, e = .returned (.tuple #[v0_, .bool r2]) ∧ Kd.R (Kd.int .i64) 3 w' w.heap.size (fun _ => True) v0_ r1 ∧ Below w.heap.size w w' := by
  have hu67 := Try.underlying67
  have HR2 := Aside0.mk hr2
  have HC2 := Aside0.mk hc2
  clear hr2 hc2
  have HB := Aside0.mk (Below.refl w.heap.size w)
  have H : (if (l2.length : Int) > 40 then (some (([] : List Int), false)) else ((slices_Repeat_int_int.f (([(-1)] : List Int)) a1).bind fun t239 => (if 0 < (t239.length : Int) then (impl_arrivals.l0 k a0 a1 l2 (t239.set (0 : Int).toNat 0) l2 (l2.length : Int) 0) else (none)))) = some (r1, r2) := h
  clear h
  by_cases c4 : (l2.length : Int) > 40
  · rw [if_pos c4] at H
    have c4b0 : decide (40 < (l2.length : Int)) = true := decide_eq_true c4
    have c4b1 : decide (40 < l2.length) = true := decide_eq_true (by omega)
    clear c4
    simp only [Option.some.injEq, Prod.mk.injEq] at H
    obtain ⟨rfl, rfl⟩ := H
    go_enter Try.func120, Try.ntmps120
    go_wp2
    repeat (go_quiet (fail); try go_wp2)
    go_ret2
    exact ⟨_, by first | rfl | (simp [errW_none, errW_some] <;> rfl) | (simp [*, errW_none, errW_some] <;> rfl), by first | exact Kd.R_nil _ _ _ _ _ | exact Kd.N_nil _ _ _ _ _ | exact Kd.V_nil _ _ _ _ _ | exact Kd.Q_nil _ _ _ _ _ | exact Kd.S_nil _ _ _ _ _, by repeat (first | (with_reducible first | exact HB.out | apply below_alloc | apply pw_below_drewN | apply below_drew1) | exact HB.out)⟩
  · rw [if_neg c4] at H
    have c4b0 : decide (40 < (l2.length : Int)) = false := decide_eq_false c4
    have c4b1 : decide (40 < l2.length) = false := decide_eq_false (by omega)
    clear c4
    obtain ⟨y236, hy236⟩ : ∃ y_ : List Int, y_ = (([(-1)] : List Int)) := ⟨_, rfl⟩
    replace H : ((slices_Repeat_int_int.f y236 a1).bind fun t239 => (if 0 < (t239.length : Int) then (impl_arrivals.l0 k a0 a1 l2 (t239.set (0 : Int).toNat 0) l2 (l2.length : Int) 0) else (none))) = some (r1, r2) := by first | (rw [hy236]; with_reducible exact H) | (have H2_ := (Option.bind_some _ _).symm.trans H; rw [hy236]; with_reducible exact H2_) | (have H2_ := (Option.bind_some _ _).symm.trans H; with_reducible exact H2_) | with_reducible exact H | (rw [hy236]; exact H) | exact H
    have Ny236 := Aside0.mk hy236
    clear hy236
    replace H := Option.bind_eq_some_iff.mp H
    obtain ⟨t239, A50, H⟩ := H
    replace H : (if 0 < (t239.length : Int) then (impl_arrivals.l0 k a0 a1 l2 (t239.set (0 : Int).toNat 0) l2 (l2.length : Int) 0) else (none)) = some (r1, r2) := H
    have A5 := Aside0.mk A50
    clear A50
    by_cases c6 : 0 < (t239.length : Int)
    · rw [if_pos c6] at H
      have c6b0 : decide (0 < (t239.length : Int)) = true := decide_eq_true c6
      have c6b1 : decide (0 < t239.length) = true := decide_eq_true (by omega)
      clear c6
      obtain ⟨y242, hy242⟩ : ∃ y_ : List Int, y_ = (t239.set (0 : Int).toNat 0) := ⟨_, rfl⟩
      replace H : (impl_arrivals.l0 k a0 a1 l2 y242 l2 (l2.length : Int) 0) = some (r1, r2) := by first | (rw [hy242]; with_reducible exact H) | (have H2_ := (Option.bind_some _ _).symm.trans H; rw [hy242]; with_reducible exact H2_) | (have H2_ := (Option.bind_some _ _).symm.trans H; with_reducible exact H2_) | with_reducible exact H | (rw [hy242]; exact H) | exact H
      have Ny242 := Aside0.mk hy242
      clear hy242
      have H' := Aside0.mk H
      clear H
      go_enter Try.func120, Try.ntmps120
      go_wp2_with (first | ((with_reducible refine gate_dst (N := 16) rfl ?_); refine Kd.R_lit (Kd.int .i64) _ 3 ?hg (N := 16) ?hd (xs := ([(-1)] : List Int)) (inner := [.int .i64 (-1)]) (ok := fun _ => True) (okp := fun _ => True) ?hr ?hp (fun _ hk => hk) trivial (Below.refl _ _) (Nat.le_refl _) (by simp) ?_; (case hd => rfl); (case hg => rfl); (case hr => first | (go_simp; done) | (go_simp; rfl)); (case hp => exact (Reps.one (show Kd.M (Kd.int .i64) _ _ _ (-1) [.int .i64 (-1)] from rfl) (Reps.none _ _))); intro v237 w8 ho9 hb hg_ hnew_; clear hg_ hnew_; (first | rw [← Ny236.out] at ho9 | (simp only [Int.reduceToNat] at ho9; rw [← Ny236.out] at ho9)); have n0_ := Aside0.mk (Kd.R_lower ho9 (below_size (by repeat (first | (with_reducible first | exact HB.out | apply below_alloc | apply pw_below_drewN | apply below_drew1) | exact HB.out)))); have n1_ := Aside0.mk (below_step (by repeat (first | (with_reducible first | exact HB.out | apply below_alloc | apply pw_below_drewN | apply below_drew1) | exact HB.out)) hb); clear HB; have HO238 := n0_; have HB := n1_; clear n0_ n1_; clear hb ho9; obtain ⟨Ao10, co10, eo10⟩ := Kd.R_slice HO238.out; subst eo10) | (go_at_call 93; (with_reducible refine (slices_Repeat_int_int.calls _ _ y236 a1 t239 _ ?side1 ?side2 A5.out).mono ?_); (case side1 => repeat (first | exact (Kd.R_reads' HO238.out).2.2 | (with_reducible refine Kd.C_alloc ?_ _) | (with_reducible refine Kd.C_drewN ?_ _) | (with_reducible refine Kd.C_drew ?_))); (case side2 => exact (Kd.R_reads' HO238.out).2.1); rintro e w11 ⟨v240, rfl, ho0, hb⟩; have n0_ := Aside0.mk (Kd.R_elder' (by (with_reducible repeat (first | apply Kd.R_alloc | apply Kd.R_drewN | apply Kd.R_drew)); exact HO238.out) (Kd.R_base ho0) hb); have n1_ := Aside0.mk (Kd.R_lower (Kd.R_new' ho0 (Kd.R_lt (by (with_reducible repeat (first | apply Kd.R_alloc | apply Kd.R_drewN | apply Kd.R_drew)); exact HO238.out))) (below_size (by repeat (first | (with_reducible first | exact HB.out | apply below_alloc | apply pw_below_drewN | apply below_drew1) | exact HB.out)))); have n2_ := Aside0.mk (below_step (by repeat (first | (with_reducible first | exact HB.out | apply below_alloc | apply pw_below_drewN | apply below_drew1) | exact HB.out)) hb); clear HO238; clear HB; have HO238 := n0_; have HO241 := n1_; have HB := n2_; clear n0_ n1_ n2_; (try clear hb); (try clear hb2); (try clear hk); (try clear hi); (try clear ho0); have p7 : 0 ≤ (0 : Int) := (by omega); have q7 : (0 : Int) < ((t239.length : Int) : Int) := of_decide_eq_true (by first | (with_reducible assumption) | assumption); have qi7 : (0 < t239.length) = True := eq_true (by omega); obtain ⟨go7, co7, eo7, gb7, gl7, cl7, HG7⟩ := Kd.R_form HO241.out (by omega); (first | cases eo7 | (injection eo7 with ea_ en_ ec_; (first | subst ea_ | (injection ea_ with ea_; subst ea_)); subst ec_; clear en_)); have GB7 := Aside0.mk gb7; have GG7 := Aside0.mk HG7; clear gb7 gl7 HG7; obtain ⟨hx7_0, hf7_0⟩ := Kd.R_celln 0 HO241.out (0 : Int) p7 q7; (try rw [show ((0 : Int)).toNat = 0 from rfl] at hx7_0); (try simp only [Nat.reduceMul, Nat.zero_mul, Nat.zero_add, Nat.reduceAdd] at hx7_0); (try rw [show ((0 : Int)).toNat = 0 from rfl] at hf7_0); (try simp only [Nat.reduceMul, Nat.zero_mul, Nat.zero_add, Nat.reduceAdd] at hf7_0); replace p7 := eq_true p7; replace q7 := eq_true q7; have n_ := Aside0.mk (Kd.R_mono (ok' := (fun k_ => some k_ ≠ (.slice Ao10 y236.length co10 : Value).ownBlock)) HO241.out (fun k_ hk => hk.2)); clear HO241; have HO241 := n_; clear n_; obtain ⟨hy12_, hz12_⟩ := Kd.R_celln 0 HO241.out (0 : Int) (by omega) (of_decide_eq_true (by first | (with_reducible assumption) | assumption)); (try simp only [Int.reduceToNat, Int.toNat_zero, Int.toNat_ofNat, Nat.reduceMul, Nat.zero_mul, Nat.zero_add] at hy12_ hz12_); (try rw [show ((0 : Int)).toNat = 0 from rfl] at hy12_); (try rw [show ((0 : Int)).toNat = 0 from rfl] at hz12_); have HP12 := Kd.R_putg HO241.out (0 : Int) 0) | ((with_reducible refine gate_store (t := 3) (p := 20) rfl ?_); (try (rw [drewN_self w11]; generalize hq_ : World.drewN w11 _ = w11; have n0_ := Aside0.mk (Kd.R_at hq_ HO238.out); have n1_ := Aside0.mk (Kd.R_at hq_ HO241.out); have n2_ := Aside0.mk (below_at hq_ HB.out); clear hq_ HO238 HO241 HB; have HO238 := n0_; have HO241 := n1_; have HB := n2_; clear n0_ n1_ n2_; (try (have n_ := Aside0.mk (Kd.R_mono (ok' := (fun k_ => some k_ ≠ (.slice Ao10 y236.length co10 : Value).ownBlock)) HO241.out (fun k_ hk => hk.2)); clear HO241; have HO241 := n_; clear n_)); (try (obtain ⟨hy12_, hz12_⟩ := Kd.R_celln 0 HO241.out (0 : Int) (by omega) (of_decide_eq_true (by first | (with_reducible assumption) | assumption)))); (try (try simp only [Int.reduceToNat, Int.toNat_zero, Int.toNat_ofNat, Nat.reduceMul, Nat.zero_mul, Nat.zero_add] at hy12_ hz12_)); (try (try rw [show ((0 : Int)).toNat = 0 from rfl] at hy12_)); (try (try rw [show ((0 : Int)).toNat = 0 from rfl] at hz12_)); (try (have HP12 := Kd.R_putg HO241.out (0 : Int) 0)))); refine store_event (t := 3) (p := 20) (v := ?vo_w13) (w1 := (w11.setCell ⟨go7, (0 : Int).toNat, none⟩ (.int .i64 0))) ?hg ?ho ?hn ?hr ?_; (case ho => rfl); (case hg => rfl); (case hn => rfl); (case hr => first | (go_simp; done) | (go_simp; rfl)); intro w13 hw; have hg : w11.grownBy w13 (some go7) := (by rw [hw]; exact HP12.2); have hp_ : Kd.R (Kd.int .i64) 3 w13 w.heap.size (fun k_ => some k_ ≠ (.slice Ao10 y236.length co10 : Value).ownBlock) (.slice (some ⟨go7, 0, none⟩) t239.length co7) y242 := (by rw [hw, Ny242.out]; exact HP12.1); clear HP12; have n0_ := Aside0.mk (Kd.R_after (v := (.slice (some ⟨go7, 0, none⟩) t239.length co7)) (v1 := (.slice (some ⟨go7, 0, none⟩) t239.length co7)) (ok := (fun _ => True)) (by (with_reducible repeat (first | apply Kd.R_alloc | apply Kd.R_drewN | apply Kd.R_drew)); exact HO238.out) hg (.inl rfl)); have n1_ := Aside0.mk (hp_); have n2_ := Aside0.mk ((by rw [hw]; exact below_set (HB.out) GB7.out : Below w.heap.size w w13)); clear HO238; clear HO241; clear HB; have HO238 := n0_; have HO241 := n1_; have HB := n2_; clear n0_ n1_ n2_; clear hg hw hp_))
      repeat (go_quiet (first | ((with_reducible refine gate_dst (N := 16) rfl ?_); refine Kd.R_lit (Kd.int .i64) _ 3 ?hg (N := 16) ?hd (xs := ([(-1)] : List Int)) (inner := [.int .i64 (-1)]) (ok := fun _ => True) (okp := fun _ => True) ?hr ?hp (fun _ hk => hk) trivial (Below.refl _ _) (Nat.le_refl _) (by simp) ?_; (case hd => rfl); (case hg => rfl); (case hr => first | (go_simp; done) | (go_simp; rfl)); (case hp => exact (Reps.one (show Kd.M (Kd.int .i64) _ _ _ (-1) [.int .i64 (-1)] from rfl) (Reps.none _ _))); intro v237 w8 ho9 hb hg_ hnew_; clear hg_ hnew_; (first | rw [← Ny236.out] at ho9 | (simp only [Int.reduceToNat] at ho9; rw [← Ny236.out] at ho9)); have n0_ := Aside0.mk (Kd.R_lower ho9 (below_size (by repeat (first | (with_reducible first | exact HB.out | apply below_alloc | apply pw_below_drewN | apply below_drew1) | exact HB.out)))); have n1_ := Aside0.mk (below_step (by repeat (first | (with_reducible first | exact HB.out | apply below_alloc | apply pw_below_drewN | apply below_drew1) | exact HB.out)) hb); clear HB; have HO238 := n0_; have HB := n1_; clear n0_ n1_; clear hb ho9; obtain ⟨Ao10, co10, eo10⟩ := Kd.R_slice HO238.out; subst eo10) | (go_at_call 93; (with_reducible refine (slices_Repeat_int_int.calls _ _ y236 a1 t239 _ ?side1 ?side2 A5.out).mono ?_); (case side1 => repeat (first | exact (Kd.R_reads' HO238.out).2.2 | (with_reducible refine Kd.C_alloc ?_ _) | (with_reducible refine Kd.C_drewN ?_ _) | (with_reducible refine Kd.C_drew ?_))); (case side2 => exact (Kd.R_reads' HO238.out).2.1); rintro e w11 ⟨v240, rfl, ho0, hb⟩; have n0_ := Aside0.mk (Kd.R_elder' (by (with_reducible repeat (first | apply Kd.R_alloc | apply Kd.R_drewN | apply Kd.R_drew)); exact HO238.out) (Kd.R_base ho0) hb); have n1_ := Aside0.mk (Kd.R_lower (Kd.R_new' ho0 (Kd.R_lt (by (with_reducible repeat (first | apply Kd.R_alloc | apply Kd.R_drewN | apply Kd.R_drew)); exact HO238.out))) (below_size (by repeat (first | (with_reducible first | exact HB.out | apply below_alloc | apply pw_below_drewN | apply below_drew1) | exact HB.out)))); have n2_ := Aside0.mk (below_step (by repeat (first | (with_reducible first | exact HB.out | apply below_alloc | apply pw_below_drewN | apply below_drew1) | exact HB.out)) hb); clear HO238; clear HB; have HO238 := n0_; have HO241 := n1_; have HB := n2_; clear n0_ n1_ n2_; (try clear hb); (try clear hb2); (try clear hk); (try clear hi); (try clear ho0); have p7 : 0 ≤ (0 : Int) := (by omega); have q7 : (0 : Int) < ((t239.length : Int) : Int) := of_decide_eq_true (by first | (with_reducible assumption) | assumption); have qi7 : (0 < t239.length) = True := eq_true (by omega); obtain ⟨go7, co7, eo7, gb7, gl7, cl7, HG7⟩ := Kd.R_form HO241.out (by omega); (first | cases eo7 | (injection eo7 with ea_ en_ ec_; (first | subst ea_ | (injection ea_ with ea_; subst ea_)); subst ec_; clear en_)); have GB7 := Aside0.mk gb7; have GG7 := Aside0.mk HG7; clear gb7 gl7 HG7; obtain ⟨hx7_0, hf7_0⟩ := Kd.R_celln 0 HO241.out (0 : Int) p7 q7; (try rw [show ((0 : Int)).toNat = 0 from rfl] at hx7_0); (try simp only [Nat.reduceMul, Nat.zero_mul, Nat.zero_add, Nat.reduceAdd] at hx7_0); (try rw [show ((0 : Int)).toNat = 0 from rfl] at hf7_0); (try simp only [Nat.reduceMul, Nat.zero_mul, Nat.zero_add, Nat.reduceAdd] at hf7_0); replace p7 := eq_true p7; replace q7 := eq_true q7; have n_ := Aside0.mk (Kd.R_mono (ok' := (fun k_ => some k_ ≠ (.slice Ao10 y236.length co10 : Value).ownBlock)) HO241.out (fun k_ hk => hk.2)); clear HO241; have HO241 := n_; clear n_; obtain ⟨hy12_, hz12_⟩ := Kd.R_celln 0 HO241.out (0 : Int) (by omega) (of_decide_eq_true (by first | (with_reducible assumption) | assumption)); (try simp only [Int.reduceToNat, Int.toNat_zero, Int.toNat_ofNat, Nat.reduceMul, Nat.zero_mul, Nat.zero_add] at hy12_ hz12_); (try rw [show ((0 : Int)).toNat = 0 from rfl] at hy12_); (try rw [show ((0 : Int)).toNat = 0 from rfl] at hz12_); have HP12 := Kd.R_putg HO241.out (0 : Int) 0) | ((with_reducible refine gate_store (t := 3) (p := 20) rfl ?_); (try (rw [drewN_self w11]; generalize hq_ : World.drewN w11 _ = w11; have n0_ := Aside0.mk (Kd.R_at hq_ HO238.out); have n1_ := Aside0.mk (Kd.R_at hq_ HO241.out); have n2_ := Aside0.mk (below_at hq_ HB.out); clear hq_ HO238 HO241 HB; have HO238 := n0_; have HO241 := n1_; have HB := n2_; clear n0_ n1_ n2_; (try (have n_ := Aside0.mk (Kd.R_mono (ok' := (fun k_ => some k_ ≠ (.slice Ao10 y236.length co10 : Value).ownBlock)) HO241.out (fun k_ hk => hk.2)); clear HO241; have HO241 := n_; clear n_)); (try (obtain ⟨hy12_, hz12_⟩ := Kd.R_celln 0 HO241.out (0 : Int) (by omega) (of_decide_eq_true (by first | (with_reducible assumption) | assumption)))); (try (try simp only [Int.reduceToNat, Int.toNat_zero, Int.toNat_ofNat, Nat.reduceMul, Nat.zero_mul, Nat.zero_add] at hy12_ hz12_)); (try (try rw [show ((0 : Int)).toNat = 0 from rfl] at hy12_)); (try (try rw [show ((0 : Int)).toNat = 0 from rfl] at hz12_)); (try (have HP12 := Kd.R_putg HO241.out (0 : Int) 0)))); refine store_event (t := 3) (p := 20) (v := ?vo_w13) (w1 := (w11.setCell ⟨go7, (0 : Int).toNat, none⟩ (.int .i64 0))) ?hg ?ho ?hn ?hr ?_; (case ho => rfl); (case hg => rfl); (case hn => rfl); (case hr => first | (go_simp; done) | (go_simp; rfl)); intro w13 hw; have hg : w11.grownBy w13 (some go7) := (by rw [hw]; exact HP12.2); have hp_ : Kd.R (Kd.int .i64) 3 w13 w.heap.size (fun k_ => some k_ ≠ (.slice Ao10 y236.length co10 : Value).ownBlock) (.slice (some ⟨go7, 0, none⟩) t239.length co7) y242 := (by rw [hw, Ny242.out]; exact HP12.1); clear HP12; have n0_ := Aside0.mk (Kd.R_after (v := (.slice (some ⟨go7, 0, none⟩) t239.length co7)) (v1 := (.slice (some ⟨go7, 0, none⟩) t239.length co7)) (ok := (fun _ => True)) (by (with_reducible repeat (first | apply Kd.R_alloc | apply Kd.R_drewN | apply Kd.R_drew)); exact HO238.out) hg (.inl rfl)); have n1_ := Aside0.mk (hp_); have n2_ := Aside0.mk ((by rw [hw]; exact below_set (HB.out) GB7.out : Below w.heap.size w w13)); clear HO238; clear HO241; clear HB; have HO238 := n0_; have HO241 := n1_; have HB := n2_; clear n0_ n1_ n2_; clear hg hw hp_)); try go_wp2_with (first | ((with_reducible refine gate_dst (N := 16) rfl ?_); refine Kd.R_lit (Kd.int .i64) _ 3 ?hg (N := 16) ?hd (xs := ([(-1)] : List Int)) (inner := [.int .i64 (-1)]) (ok := fun _ => True) (okp := fun _ => True) ?hr ?hp (fun _ hk => hk) trivial (Below.refl _ _) (Nat.le_refl _) (by simp) ?_; (case hd => rfl); (case hg => rfl); (case hr => first | (go_simp; done) | (go_simp; rfl)); (case hp => exact (Reps.one (show Kd.M (Kd.int .i64) _ _ _ (-1) [.int .i64 (-1)] from rfl) (Reps.none _ _))); intro v237 w8 ho9 hb hg_ hnew_; clear hg_ hnew_; (first | rw [← Ny236.out] at ho9 | (simp only [Int.reduceToNat] at ho9; rw [← Ny236.out] at ho9)); have n0_ := Aside0.mk (Kd.R_lower ho9 (below_size (by repeat (first | (with_reducible first | exact HB.out | apply below_alloc | apply pw_below_drewN | apply below_drew1) | exact HB.out)))); have n1_ := Aside0.mk (below_step (by repeat (first | (with_reducible first | exact HB.out | apply below_alloc | apply pw_below_drewN | apply below_drew1) | exact HB.out)) hb); clear HB; have HO238 := n0_; have HB := n1_; clear n0_ n1_; clear hb ho9; obtain ⟨Ao10, co10, eo10⟩ := Kd.R_slice HO238.out; subst eo10) | (go_at_call 93; (with_reducible refine (slices_Repeat_int_int.calls _ _ y236 a1 t239 _ ?side1 ?side2 A5.out).mono ?_); (case side1 => repeat (first | exact (Kd.R_reads' HO238.out).2.2 | (with_reducible refine Kd.C_alloc ?_ _) | (with_reducible refine Kd.C_drewN ?_ _) | (with_reducible refine Kd.C_drew ?_))); (case side2 => exact (Kd.R_reads' HO238.out).2.1); rintro e w11 ⟨v240, rfl, ho0, hb⟩; have n0_ := Aside0.mk (Kd.R_elder' (by (with_reducible repeat (first | apply Kd.R_alloc | apply Kd.R_drewN | apply Kd.R_drew)); exact HO238.out) (Kd.R_base ho0) hb); have n1_ := Aside0.mk (Kd.R_lower (Kd.R_new' ho0 (Kd.R_lt (by (with_reducible repeat (first | apply Kd.R_alloc | apply Kd.R_drewN | apply Kd.R_drew)); exact HO238.out))) (below_size (by repeat (first | (with_reducible first | exact HB.out | apply below_alloc | apply pw_below_drewN | apply below_drew1) | exact HB.out)))); have n2_ := Aside0.mk (below_step (by repeat (first | (with_reducible first | exact HB.out | apply below_alloc | apply pw_below_drewN | apply below_drew1) | exact HB.out)) hb); clear HO238; clear HB; have HO238 := n0_; have HO241 := n1_; have HB := n2_; clear n0_ n1_ n2_; (try clear hb); (try clear hb2); (try clear hk); (try clear hi); (try clear ho0); have p7 : 0 ≤ (0 : Int) := (by omega); have q7 : (0 : Int) < ((t239.length : Int) : Int) := of_decide_eq_true (by first | (with_reducible assumption) | assumption); have qi7 : (0 < t239.length) = True := eq_true (by omega); obtain ⟨go7, co7, eo7, gb7, gl7, cl7, HG7⟩ := Kd.R_form HO241.out (by omega); (first | cases eo7 | (injection eo7 with ea_ en_ ec_; (first | subst ea_ | (injection ea_ with ea_; subst ea_)); subst ec_; clear en_)); have GB7 := Aside0.mk gb7; have GG7 := Aside0.mk HG7; clear gb7 gl7 HG7; obtain ⟨hx7_0, hf7_0⟩ := Kd.R_celln 0 HO241.out (0 : Int) p7 q7; (try rw [show ((0 : Int)).toNat = 0 from rfl] at hx7_0); (try simp only [Nat.reduceMul, Nat.zero_mul, Nat.zero_add, Nat.reduceAdd] at hx7_0); (try rw [show ((0 : Int)).toNat = 0 from rfl] at hf7_0); (try simp only [Nat.reduceMul, Nat.zero_mul, Nat.zero_add, Nat.reduceAdd] at hf7_0); replace p7 := eq_true p7; replace q7 := eq_true q7; have n_ := Aside0.mk (Kd.R_mono (ok' := (fun k_ => some k_ ≠ (.slice Ao10 y236.length co10 : Value).ownBlock)) HO241.out (fun k_ hk => hk.2)); clear HO241; have HO241 := n_; clear n_; obtain ⟨hy12_, hz12_⟩ := Kd.R_celln 0 HO241.out (0 : Int) (by omega) (of_decide_eq_true (by first | (with_reducible assumption) | assumption)); (try simp only [Int.reduceToNat, Int.toNat_zero, Int.toNat_ofNat, Nat.reduceMul, Nat.zero_mul, Nat.zero_add] at hy12_ hz12_); (try rw [show ((0 : Int)).toNat = 0 from rfl] at hy12_); (try rw [show ((0 : Int)).toNat = 0 from rfl] at hz12_); have HP12 := Kd.R_putg HO241.out (0 : Int) 0) | ((with_reducible refine gate_store (t := 3) (p := 20) rfl ?_); (try (rw [drewN_self w11]; generalize hq_ : World.drewN w11 _ = w11; have n0_ := Aside0.mk (Kd.R_at hq_ HO238.out); have n1_ := Aside0.mk (Kd.R_at hq_ HO241.out); have n2_ := Aside0.mk (below_at hq_ HB.out); clear hq_ HO238 HO241 HB; have HO238 := n0_; have HO241 := n1_; have HB := n2_; clear n0_ n1_ n2_; (try (have n_ := Aside0.mk (Kd.R_mono (ok' := (fun k_ => some k_ ≠ (.slice Ao10 y236.length co10 : Value).ownBlock)) HO241.out (fun k_ hk => hk.2)); clear HO241; have HO241 := n_; clear n_)); (try (obtain ⟨hy12_, hz12_⟩ := Kd.R_celln 0 HO241.out (0 : Int) (by omega) (of_decide_eq_true (by first | (with_reducible assumption) | assumption)))); (try (try simp only [Int.reduceToNat, Int.toNat_zero, Int.toNat_ofNat, Nat.reduceMul, Nat.zero_mul, Nat.zero_add] at hy12_ hz12_)); (try (try rw [show ((0 : Int)).toNat = 0 from rfl] at hy12_)); (try (try rw [show ((0 : Int)).toNat = 0 from rfl] at hz12_)); (try (have HP12 := Kd.R_putg HO241.out (0 : Int) 0)))); refine store_event (t := 3) (p := 20) (v := ?vo_w13) (w1 := (w11.setCell ⟨go7, (0 : Int).toNat, none⟩ (.int .i64 0))) ?hg ?ho ?hn ?hr ?_; (case ho => rfl); (case hg => rfl); (case hn => rfl); (case hr => first | (go_simp; done) | (go_simp; rfl)); intro w13 hw; have hg : w11.grownBy w13 (some go7) := (by rw [hw]; exact HP12.2); have hp_ : Kd.R (Kd.int .i64) 3 w13 w.heap.size (fun k_ => some k_ ≠ (.slice Ao10 y236.length co10 : Value).ownBlock) (.slice (some ⟨go7, 0, none⟩) t239.length co7) y242 := (by rw [hw, Ny242.out]; exact HP12.1); clear HP12; have n0_ := Aside0.mk (Kd.R_after (v := (.slice (some ⟨go7, 0, none⟩) t239.length co7)) (v1 := (.slice (some ⟨go7, 0, none⟩) t239.length co7)) (ok := (fun _ => True)) (by (with_reducible repeat (first | apply Kd.R_alloc | apply Kd.R_drewN | apply Kd.R_drew)); exact HO238.out) hg (.inl rfl)); have n1_ := Aside0.mk (hp_); have n2_ := Aside0.mk ((by rw [hw]; exact below_set (HB.out) GB7.out : Below w.heap.size w w13)); clear HO238; clear HO241; clear HB; have HO238 := n0_; have HO241 := n1_; have HB := n2_; clear n0_ n1_ n2_; clear hg hw hp_)))
      go_loopg [23] k (fun kq v23 w' => ∃ (x8_1 : List Int) (x23_1 : Int), v23 = .int .i64 x23_1 ∧ Aside0 (impl_arrivals.l0 kq a0 a1 l2 x8_1 l2 (l2.length : Int) x23_1 = some (r1, r2)) ∧ Aside0 (kq ≤ k) ∧ Aside0 (Kd.R (Kd.int .i64) 3 w' w.heap.size (fun _ => True) (.slice (some ⟨go7, 0, none⟩) t239.length co7) x8_1) ∧ Aside0 (Below w.heap.size w w'))
      case atStart => exact ⟨(y242), (0), (by first | rfl | (simp; done) | (simp [*]; done)), H', ⟨Nat.le_refl _⟩, ⟨by (with_reducible repeat (first | apply Kd.R_alloc | apply Kd.R_drewN | apply Kd.R_drew)); exact Kd.R_mono HO241.out (fun _ hk => trivial)⟩, ⟨by repeat (first | (with_reducible first | exact HB.out | apply below_alloc | apply pw_below_drewN | apply below_drew1) | exact HB.out)⟩⟩
      case round =>
        clear H'
        try clear c1
        try clear c2
        try clear p2
        try clear c4
        try clear c4b0
        try clear c4b1
        try clear c6
        try clear c6b0
        try clear c6b1
        try clear p7
        try clear q7
        try clear hx7
        try clear qi7
        try clear hf7
        try clear c12
        try clear hx7_0
        try clear p7
        try clear q7
        obtain ⟨x8_1, x23_1, rfl, HA, HK1, HO_8, HB⟩ := hrel
        have hl8_1 := (Kd.R_reads' HO_8.out).1
        rw [hl8_1] at HO_8
        (try simp only [hl8_1])
        cases gk with
        | zero => exact absurd HA.out (by simp [impl_arrivals.l0])
        | succ k1 =>
          have H := HA.out
          clear HA
          simp only [impl_arrivals.l0] at H
          by_cases c14 : x23_1 < (l2.length : Int)
          · rw [if_pos c14] at H
            have c14b0 : decide (x23_1 < (l2.length : Int)) = true := decide_eq_true c14
            (try (have c14b0h := c14b0; simp only [hl8_1] at c14b0h))
            clear c14
            by_cases c15 : 0 ≤ x23_1
            · rw [if_pos c15] at H
              have c15b0 : decide (0 ≤ x23_1) = true := decide_eq_true c15
              (try (have c15b0h := c15b0; simp only [hl8_1] at c15b0h))
              clear c15
              by_cases c16 : x23_1 < (l2.length : Int)
              · rw [if_pos c16] at H
                have c16b0 : decide (x23_1 < (l2.length : Int)) = true := decide_eq_true c16
                (try (have c16b0h := c16b0; simp only [hl8_1] at c16b0h))
                clear c16
                have HC17 := Aside0.mk H
                clear H
                have p243 : 0 ≤ (x23_1 : Int) := of_decide_eq_true (by first | (with_reducible assumption) | assumption)
                have q243 : x23_1 < (l2.length : Int) := of_decide_eq_true (by first | (with_reducible assumption) | assumption)
                obtain ⟨ad243, e243, hx243_0, hx243_1, hx243_2⟩ := at_T67 HR2.out x23_1 p243 q243
                cases e243
                replace hx243_0 := (HB.out.cell (World.block_lt_of_cell? w _ hx243_0)).trans hx243_0
                replace hx243_1 := (HB.out.cell (World.block_lt_of_cell? w _ hx243_1)).trans hx243_1
                replace hx243_2 := (HB.out.cell (World.block_lt_of_cell? w _ hx243_2)).trans hx243_2
                replace p243 := eq_true p243
                replace q243 := eq_true q243
                go_upto_region 8 with (first | ((with_reducible refine gate_dst (N := 10) rfl ?_); refine box_event ?hg (N := 10) ?hd (cs := #[.int .i64 0, .int .i64 0, .int .i64 0]) (t := 67) ?hr ?_; (case hd => rfl); (case hg => rfl); (case hr => first | (go_simp; done) | (go_simp; rfl)); intro gb244 hg w18 hbox hb; have n0_ := Aside0.mk (Kd.R_below (by (with_reducible repeat (first | apply Kd.R_alloc | apply Kd.R_drewN | apply Kd.R_drew)); exact HO_8.out) hb); have n1_ := Aside0.mk (below_step (by repeat (first | (with_reducible first | exact HB.out | apply below_alloc | apply pw_below_drewN | apply below_drew1) | exact HB.out)) hb); have n2_ := Aside0.mk (hbox); have n3_ := Aside0.mk ((by rw [hg]; exact (below_size (by repeat (first | (with_reducible first | exact HB.out | apply below_alloc | apply pw_below_drewN | apply below_drew1) | exact HB.out))) : w.heap.size ≤ gb244)); have n4_ := Aside0.mk ((by rw [hg]; exact (below_size (by repeat (first | (with_reducible first | exact HB.out | apply below_alloc | apply pw_below_drewN | apply below_drew1) | exact HB.out))) : w.heap.size ≤ gb244)); clear HO_8; clear HB; have HO_8 := n0_; have HB := n1_; have BK244 := n2_; have GW244 := n3_; have GE244 := n4_; clear n0_ n1_ n2_ n3_ n4_; clear hb hbox hg; have hcz19_0 : w18.cell? ⟨gb244, 0, none⟩ = some (.int .i64 0) := (blk_cell BK244.out 0).trans rfl; have hcz19_1 : w18.cell? ⟨gb244, 1, none⟩ = some (.int .i64 0) := (blk_cell BK244.out 1).trans rfl; have hcz19_2 : w18.cell? ⟨gb244, 2, none⟩ = some (.int .i64 0) := (blk_cell BK244.out 2).trans rfl; have hfz19_0 := blk_frozen BK244.out 0; have hfz19_1 := blk_frozen BK244.out 1; have hfz19_2 := blk_frozen BK244.out 2))
                repeat (go_quiet (first | ((with_reducible refine gate_dst (N := 10) rfl ?_); refine box_event ?hg (N := 10) ?hd (cs := #[.int .i64 0, .int .i64 0, .int .i64 0]) (t := 67) ?hr ?_; (case hd => rfl); (case hg => rfl); (case hr => first | (go_simp; done) | (go_simp; rfl)); intro gb244 hg w18 hbox hb; have n0_ := Aside0.mk (Kd.R_below (by (with_reducible repeat (first | apply Kd.R_alloc | apply Kd.R_drewN | apply Kd.R_drew)); exact HO_8.out) hb); have n1_ := Aside0.mk (below_step (by repeat (first | (with_reducible first | exact HB.out | apply below_alloc | apply pw_below_drewN | apply below_drew1) | exact HB.out)) hb); have n2_ := Aside0.mk (hbox); have n3_ := Aside0.mk ((by rw [hg]; exact (below_size (by repeat (first | (with_reducible first | exact HB.out | apply below_alloc | apply pw_below_drewN | apply below_drew1) | exact HB.out))) : w.heap.size ≤ gb244)); have n4_ := Aside0.mk ((by rw [hg]; exact (below_size (by repeat (first | (with_reducible first | exact HB.out | apply below_alloc | apply pw_below_drewN | apply below_drew1) | exact HB.out))) : w.heap.size ≤ gb244)); clear HO_8; clear HB; have HO_8 := n0_; have HB := n1_; have BK244 := n2_; have GW244 := n3_; have GE244 := n4_; clear n0_ n1_ n2_ n3_ n4_; clear hb hbox hg; have hcz19_0 : w18.cell? ⟨gb244, 0, none⟩ = some (.int .i64 0) := (blk_cell BK244.out 0).trans rfl; have hcz19_1 : w18.cell? ⟨gb244, 1, none⟩ = some (.int .i64 0) := (blk_cell BK244.out 1).trans rfl; have hcz19_2 : w18.cell? ⟨gb244, 2, none⟩ = some (.int .i64 0) := (blk_cell BK244.out 2).trans rfl; have hfz19_0 := blk_frozen BK244.out 0; have hfz19_1 := blk_frozen BK244.out 1; have hfz19_2 := blk_frozen BK244.out 2)); go_upto_region 8 with (first | ((with_reducible refine gate_dst (N := 10) rfl ?_); refine box_event ?hg (N := 10) ?hd (cs := #[.int .i64 0, .int .i64 0, .int .i64 0]) (t := 67) ?hr ?_; (case hd => rfl); (case hg => rfl); (case hr => first | (go_simp; done) | (go_simp; rfl)); intro gb244 hg w18 hbox hb; have n0_ := Aside0.mk (Kd.R_below (by (with_reducible repeat (first | apply Kd.R_alloc | apply Kd.R_drewN | apply Kd.R_drew)); exact HO_8.out) hb); have n1_ := Aside0.mk (below_step (by repeat (first | (with_reducible first | exact HB.out | apply below_alloc | apply pw_below_drewN | apply below_drew1) | exact HB.out)) hb); have n2_ := Aside0.mk (hbox); have n3_ := Aside0.mk ((by rw [hg]; exact (below_size (by repeat (first | (with_reducible first | exact HB.out | apply below_alloc | apply pw_below_drewN | apply below_drew1) | exact HB.out))) : w.heap.size ≤ gb244)); have n4_ := Aside0.mk ((by rw [hg]; exact (below_size (by repeat (first | (with_reducible first | exact HB.out | apply below_alloc | apply pw_below_drewN | apply below_drew1) | exact HB.out))) : w.heap.size ≤ gb244)); clear HO_8; clear HB; have HO_8 := n0_; have HB := n1_; have BK244 := n2_; have GW244 := n3_; have GE244 := n4_; clear n0_ n1_ n2_ n3_ n4_; clear hb hbox hg; have hcz19_0 : w18.cell? ⟨gb244, 0, none⟩ = some (.int .i64 0) := (blk_cell BK244.out 0).trans rfl; have hcz19_1 : w18.cell? ⟨gb244, 1, none⟩ = some (.int .i64 0) := (blk_cell BK244.out 1).trans rfl; have hcz19_2 : w18.cell? ⟨gb244, 2, none⟩ = some (.int .i64 0) := (blk_cell BK244.out 2).trans rfl; have hfz19_0 := blk_frozen BK244.out 0; have hfz19_1 := blk_frozen BK244.out 1; have hfz19_2 := blk_frozen BK244.out 2)))
                (try simp only [Act.put, List.setIfInBounds_toArray, List.set_cons_zero, List.set_cons_succ])
                go_cut [62] (fun v62 wc => ∃ (kq : Nat) (x62_16 : Bool), v62 = .bool x62_16 ∧ Aside0 (impl_arrivals.j1 kq a0 a1 l2 x8_1 x23_1 l2 (l2.length : Int) x23_1 x62_16 ((rd_T67 l2 x23_1).f0) ((rd_T67 l2 x23_1).f1) ((rd_T67 l2 x23_1).f2) = some (r1, r2)) ∧ Aside0 (kq ≤ k1) ∧ Aside0 (Kd.R (Kd.int .i64) 3 wc w.heap.size (fun _ => True) (.slice (some ⟨go7, 0, none⟩) x8_1.length co7) x8_1) ∧ Aside0 (wc.heap[gb244]? = some (.cells #[.int .i64 ((rd_T67 l2 x23_1).f0), .int .i64 ((rd_T67 l2 x23_1).f1), .int .i64 ((rd_T67 l2 x23_1).f2)] 67 (0, 0))) ∧ Aside0 (Below w.heap.size w wc))
                case first =>
                  have H := HC17.out
                  clear HC17
                  replace H := Option.bind_eq_some_iff.mp H
                  obtain ⟨t245, A200, H⟩ := H
                  replace H : (if t245 = true then ((impl_within.f ((rd_T67 l2 x23_1).f1) 1 (wrap64 (a1 - 1))).bind fun t246 => (if t246 = true then (if ((rd_T67 l2 x23_1).f0) = ((rd_T67 l2 x23_1).f1) then (impl_arrivals.j1 k1 a0 a1 l2 x8_1 x23_1 l2 (l2.length : Int) x23_1 true ((rd_T67 l2 x23_1).f0) ((rd_T67 l2 x23_1).f1) ((rd_T67 l2 x23_1).f2)) else ((impl_isMinute.f ((rd_T67 l2 x23_1).f2)).bind fun t247 => (if t247 = true then (if 0 ≤ ((rd_T67 l2 x23_1).f1) then (if ((rd_T67 l2 x23_1).f1) < (x8_1.length : Int) then (impl_arrivals.j1 k1 a0 a1 l2 x8_1 x23_1 l2 (l2.length : Int) x23_1 (decide ((rd x8_1 ((rd_T67 l2 x23_1).f1)) ≥ 0)) ((rd_T67 l2 x23_1).f0) ((rd_T67 l2 x23_1).f1) ((rd_T67 l2 x23_1).f2)) else (none)) else (none)) else (impl_arrivals.j1 k1 a0 a1 l2 x8_1 x23_1 l2 (l2.length : Int) x23_1 true ((rd_T67 l2 x23_1).f0) ((rd_T67 l2 x23_1).f1) ((rd_T67 l2 x23_1).f2))))) else (impl_arrivals.j1 k1 a0 a1 l2 x8_1 x23_1 l2 (l2.length : Int) x23_1 true ((rd_T67 l2 x23_1).f0) ((rd_T67 l2 x23_1).f1) ((rd_T67 l2 x23_1).f2)))) else (impl_arrivals.j1 k1 a0 a1 l2 x8_1 x23_1 l2 (l2.length : Int) x23_1 true ((rd_T67 l2 x23_1).f0) ((rd_T67 l2 x23_1).f1) ((rd_T67 l2 x23_1).f2))) = some (r1, r2) := H
                  have A20 := Aside0.mk A200
                  clear A200
                  by_cases c21 : t245 = true
                  · subst c21
                    have H1 : ((impl_within.f ((rd_T67 l2 x23_1).f1) 1 (wrap64 (a1 - 1))).bind fun t246 => (if t246 = true then (if ((rd_T67 l2 x23_1).f0) = ((rd_T67 l2 x23_1).f1) then (impl_arrivals.j1 k1 a0 a1 l2 x8_1 x23_1 l2 (l2.length : Int) x23_1 true ((rd_T67 l2 x23_1).f0) ((rd_T67 l2 x23_1).f1) ((rd_T67 l2 x23_1).f2)) else ((impl_isMinute.f ((rd_T67 l2 x23_1).f2)).bind fun t247 => (if t247 = true then (if 0 ≤ ((rd_T67 l2 x23_1).f1) then (if ((rd_T67 l2 x23_1).f1) < (x8_1.length : Int) then (impl_arrivals.j1 k1 a0 a1 l2 x8_1 x23_1 l2 (l2.length : Int) x23_1 (decide ((rd x8_1 ((rd_T67 l2 x23_1).f1)) ≥ 0)) ((rd_T67 l2 x23_1).f0) ((rd_T67 l2 x23_1).f1) ((rd_T67 l2 x23_1).f2)) else (none)) else (none)) else (impl_arrivals.j1 k1 a0 a1 l2 x8_1 x23_1 l2 (l2.length : Int) x23_1 true ((rd_T67 l2 x23_1).f0) ((rd_T67 l2 x23_1).f1) ((rd_T67 l2 x23_1).f2))))) else (impl_arrivals.j1 k1 a0 a1 l2 x8_1 x23_1 l2 (l2.length : Int) x23_1 true ((rd_T67 l2 x23_1).f0) ((rd_T67 l2 x23_1).f1) ((rd_T67 l2 x23_1).f2)))) = some (r1, r2) := by rw [if_pos rfl] at H; exact H
                    clear H
                    have H := H1
                    clear H1
                    replace H := Option.bind_eq_some_iff.mp H
                    obtain ⟨t246, A220, H⟩ := H
                    replace H : (if t246 = true then (if ((rd_T67 l2 x23_1).f0) = ((rd_T67 l2 x23_1).f1) then (impl_arrivals.j1 k1 a0 a1 l2 x8_1 x23_1 l2 (l2.length : Int) x23_1 true ((rd_T67 l2 x23_1).f0) ((rd_T67 l2 x23_1).f1) ((rd_T67 l2 x23_1).f2)) else ((impl_isMinute.f ((rd_T67 l2 x23_1).f2)).bind fun t247 => (if t247 = true then (if 0 ≤ ((rd_T67 l2 x23_1).f1) then (if ((rd_T67 l2 x23_1).f1) < (x8_1.length : Int) then (impl_arrivals.j1 k1 a0 a1 l2 x8_1 x23_1 l2 (l2.length : Int) x23_1 (decide ((rd x8_1 ((rd_T67 l2 x23_1).f1)) ≥ 0)) ((rd_T67 l2 x23_1).f0) ((rd_T67 l2 x23_1).f1) ((rd_T67 l2 x23_1).f2)) else (none)) else (none)) else (impl_arrivals.j1 k1 a0 a1 l2 x8_1 x23_1 l2 (l2.length : Int) x23_1 true ((rd_T67 l2 x23_1).f0) ((rd_T67 l2 x23_1).f1) ((rd_T67 l2 x23_1).f2))))) else (impl_arrivals.j1 k1 a0 a1 l2 x8_1 x23_1 l2 (l2.length : Int) x23_1 true ((rd_T67 l2 x23_1).f0) ((rd_T67 l2 x23_1).f1) ((rd_T67 l2 x23_1).f2))) = some (r1, r2) := H
                    have A22 := Aside0.mk A220
                    clear A220
                    by_cases c23 : t246 = true
                    · subst c23
                      have H1 : (if ((rd_T67 l2 x23_1).f0) = ((rd_T67 l2 x23_1).f1) then (impl_arrivals.j1 k1 a0 a1 l2 x8_1 x23_1 l2 (l2.length : Int) x23_1 true ((rd_T67 l2 x23_1).f0) ((rd_T67 l2 x23_1).f1) ((rd_T67 l2 x23_1).f2)) else ((impl_isMinute.f ((rd_T67 l2 x23_1).f2)).bind fun t247 => (if t247 = true then (if 0 ≤ ((rd_T67 l2 x23_1).f1) then (if ((rd_T67 l2 x23_1).f1) < (x8_1.length : Int) then (impl_arrivals.j1 k1 a0 a1 l2 x8_1 x23_1 l2 (l2.length : Int) x23_1 (decide ((rd x8_1 ((rd_T67 l2 x23_1).f1)) ≥ 0)) ((rd_T67 l2 x23_1).f0) ((rd_T67 l2 x23_1).f1) ((rd_T67 l2 x23_1).f2)) else (none)) else (none)) else (impl_arrivals.j1 k1 a0 a1 l2 x8_1 x23_1 l2 (l2.length : Int) x23_1 true ((rd_T67 l2 x23_1).f0) ((rd_T67 l2 x23_1).f1) ((rd_T67 l2 x23_1).f2))))) = some (r1, r2) := by rw [if_pos rfl] at H; exact H
                      clear H
                      have H := H1
                      clear H1
                      by_cases c24 : ((rd_T67 l2 x23_1).f0) = ((rd_T67 l2 x23_1).f1)
                      · rw [if_pos c24] at H
                        have c24b0 : (((rd_T67 l2 x23_1).f0) == ((rd_T67 l2 x23_1).f1)) = true := beq_iff_eq.mpr c24
                        (try (have c24b0h := c24b0; simp only [hl8_1] at c24b0h))
                        have c24b1 : (((rd_T67 l2 x23_1).f0) != ((rd_T67 l2 x23_1).f1)) = false := bne_eq_false_iff_eq.mpr c24
                        (try (have c24b1h := c24b1; simp only [hl8_1] at c24b1h))
                        clear c24
                        (first | rw [c24b0] | (simp only [i64_w, i32_w]; rw [c24b0]) |rw [c24b1] | rw [c24b2] | skip)
                        have H' := Aside0.mk H
                        clear H
                        have hcz25_0 : w18.cell? ⟨gb244, 0, none⟩ = some (.int .i64 0) := (blk_cell BK244.out 0).trans rfl
                        have hcz25_1 : w18.cell? ⟨gb244, 1, none⟩ = some (.int .i64 0) := (blk_cell BK244.out 1).trans rfl
                        have hcz25_2 : w18.cell? ⟨gb244, 2, none⟩ = some (.int .i64 0) := (blk_cell BK244.out 2).trans rfl
                        have hfz25_0 := blk_frozen BK244.out 0
                        have hfz25_1 := blk_frozen BK244.out 1
                        have hfz25_2 := blk_frozen BK244.out 2
                        go_wp2_with (first | (go_at_call 57; (with_reducible refine (impl_within.calls ((rd_T67 l2 x23_1).f0) 0 (wrap64 (a1 - 1)) true _ A20.out).mono ?_); rintro e w' ⟨rfl, ⟨nd, rfl⟩⟩; (try first | exact ⟨rfl, _, World.drewN_drewN _ _ _⟩ | exact ⟨rfl, _, Eq.trans (World.drewN_drewN _ _ _) (congrArg (World.drewN _) (Nat.add_assoc _ _ _))⟩)) | (go_at_call 57; (with_reducible refine (impl_within.calls ((rd_T67 l2 x23_1).f1) 1 (wrap64 (a1 - 1)) true _ A22.out).mono ?_); rintro e w' ⟨rfl, ⟨nd, rfl⟩⟩; (try first | exact ⟨rfl, _, World.drewN_drewN _ _ _⟩ | exact ⟨rfl, _, Eq.trans (World.drewN_drewN _ _ _) (congrArg (World.drewN _) (Nat.add_assoc _ _ _))⟩)))
                        repeat (go_quiet (first | (go_at_call 57; (with_reducible refine (impl_within.calls ((rd_T67 l2 x23_1).f0) 0 (wrap64 (a1 - 1)) true _ A20.out).mono ?_); rintro e w' ⟨rfl, ⟨nd, rfl⟩⟩; (try first | exact ⟨rfl, _, World.drewN_drewN _ _ _⟩ | exact ⟨rfl, _, Eq.trans (World.drewN_drewN _ _ _) (congrArg (World.drewN _) (Nat.add_assoc _ _ _))⟩)) | (go_at_call 57; (with_reducible refine (impl_within.calls ((rd_T67 l2 x23_1).f1) 1 (wrap64 (a1 - 1)) true _ A22.out).mono ?_); rintro e w' ⟨rfl, ⟨nd, rfl⟩⟩; (try first | exact ⟨rfl, _, World.drewN_drewN _ _ _⟩ | exact ⟨rfl, _, Eq.trans (World.drewN_drewN _ _ _) (congrArg (World.drewN _) (Nat.add_assoc _ _ _))⟩))); try go_wp2_with (first | (go_at_call 57; (with_reducible refine (impl_within.calls ((rd_T67 l2 x23_1).f0) 0 (wrap64 (a1 - 1)) true _ A20.out).mono ?_); rintro e w' ⟨rfl, ⟨nd, rfl⟩⟩; (try first | exact ⟨rfl, _, World.drewN_drewN _ _ _⟩ | exact ⟨rfl, _, Eq.trans (World.drewN_drewN _ _ _) (congrArg (World.drewN _) (Nat.add_assoc _ _ _))⟩)) | (go_at_call 57; (with_reducible refine (impl_within.calls ((rd_T67 l2 x23_1).f1) 1 (wrap64 (a1 - 1)) true _ A22.out).mono ?_); rintro e w' ⟨rfl, ⟨nd, rfl⟩⟩; (try first | exact ⟨rfl, _, World.drewN_drewN _ _ _⟩ | exact ⟨rfl, _, Eq.trans (World.drewN_drewN _ _ _) (congrArg (World.drewN _) (Nat.add_assoc _ _ _))⟩))))
                        go_meet
                        case rel => exact ⟨_, (true), (by first | rfl | (simp; done) | (simp [*]; done)), H', ⟨by have := HK1.out; first | omega | exact Nat.le_refl _⟩, ⟨by (try simp only [hl8_1]); (with_reducible repeat (first | apply Kd.R_alloc | apply Kd.R_drewN | apply Kd.R_drew)); exact Kd.R_mono (Kd.R_far (p := ⟨gb244, 2, none⟩) (Kd.R_far (p := ⟨gb244, 1, none⟩) (Kd.R_far (p := ⟨gb244, 0, none⟩) (Kd.R_types HO_8.out BK244.out (by decide)) (fun _ hk => hk.2) (.int .i64 ((rd_T67 l2 x23_1).f0))) (fun _ hk => hk.2) (.int .i64 ((rd_T67 l2 x23_1).f1))) (fun _ hk => hk.2) (.int .i64 ((rd_T67 l2 x23_1).f2))) (fun _ hk => trivial)⟩, ⟨by (try simp only [hl8_1]); (with_reducible repeat (first | refine blk_drewN ?_ _ | refine blk_drew ?_ | refine blk_alloc ?_ _)); refine blk_put (cs := #[.int .i64 ((rd_T67 l2 x23_1).f0), .int .i64 ((rd_T67 l2 x23_1).f1), .int .i64 0]) ?_ 2 _ rfl; (with_reducible repeat (first | refine blk_drewN ?_ _ | refine blk_drew ?_ | refine blk_alloc ?_ _)); refine blk_put (cs := #[.int .i64 ((rd_T67 l2 x23_1).f0), .int .i64 0, .int .i64 0]) ?_ 1 _ rfl; (with_reducible repeat (first | refine blk_drewN ?_ _ | refine blk_drew ?_ | refine blk_alloc ?_ _)); refine blk_put (cs := #[.int .i64 0, .int .i64 0, .int .i64 0]) ?_ 0 _ rfl; (with_reducible repeat (first | refine blk_drewN ?_ _ | refine blk_drew ?_ | refine blk_alloc ?_ _)); exact BK244.out⟩, ⟨by repeat (first | (with_reducible first | exact HB.out | apply below_alloc | apply pw_below_drewN | apply below_drew1 | refine below_set ?_ GE244.out) | exact HB.out)⟩⟩
                      · rw [if_neg c24] at H
                        have c24b0 : (((rd_T67 l2 x23_1).f0) == ((rd_T67 l2 x23_1).f1)) = false := beq_eq_false_iff_ne.mpr c24
                        (try (have c24b0h := c24b0; simp only [hl8_1] at c24b0h))
                        have c24b1 : (((rd_T67 l2 x23_1).f0) != ((rd_T67 l2 x23_1).f1)) = true := bne_iff_ne.mpr c24
                        (try (have c24b1h := c24b1; simp only [hl8_1] at c24b1h))
                        (first | rw [c24b0] | (simp only [i64_w, i32_w]; rw [c24b0]) |rw [c24b1] | rw [c24b2] | skip)
                        replace H := Option.bind_eq_some_iff.mp H
                        obtain ⟨t247, A260, H⟩ := H
                        replace H : (if t247 = true then (if 0 ≤ ((rd_T67 l2 x23_1).f1) then (if ((rd_T67 l2 x23_1).f1) < (x8_1.length : Int) then (impl_arrivals.j1 k1 a0 a1 l2 x8_1 x23_1 l2 (l2.length : Int) x23_1 (decide ((rd x8_1 ((rd_T67 l2 x23_1).f1)) ≥ 0)) ((rd_T67 l2 x23_1).f0) ((rd_T67 l2 x23_1).f1) ((rd_T67 l2 x23_1).f2)) else (none)) else (none)) else (impl_arrivals.j1 k1 a0 a1 l2 x8_1 x23_1 l2 (l2.length : Int) x23_1 true ((rd_T67 l2 x23_1).f0) ((rd_T67 l2 x23_1).f1) ((rd_T67 l2 x23_1).f2))) = some (r1, r2) := H
                        have A26 := Aside0.mk A260
                        clear A260
                        by_cases c27 : t247 = true
                        · subst c27
                          have H1 : (if 0 ≤ ((rd_T67 l2 x23_1).f1) then (if ((rd_T67 l2 x23_1).f1) < (x8_1.length : Int) then (impl_arrivals.j1 k1 a0 a1 l2 x8_1 x23_1 l2 (l2.length : Int) x23_1 (decide ((rd x8_1 ((rd_T67 l2 x23_1).f1)) ≥ 0)) ((rd_T67 l2 x23_1).f0) ((rd_T67 l2 x23_1).f1) ((rd_T67 l2 x23_1).f2)) else (none)) else (none)) = some (r1, r2) := by rw [if_pos rfl] at H; exact H
                          clear H
                          have H := H1
                          clear H1
                          by_cases c28 : 0 ≤ ((rd_T67 l2 x23_1).f1)
                          · rw [if_pos c28] at H
                            have c28b0 : decide (0 ≤ ((rd_T67 l2 x23_1).f1)) = true := decide_eq_true c28
                            (try (have c28b0h := c28b0; simp only [hl8_1] at c28b0h))
                            clear c28
                            by_cases c29 : ((rd_T67 l2 x23_1).f1) < (x8_1.length : Int)
                            · rw [if_pos c29] at H
                              have c29b0 : decide (((rd_T67 l2 x23_1).f1) < (x8_1.length : Int)) = true := decide_eq_true c29
                              (try (have c29b0h := c29b0; simp only [hl8_1] at c29b0h))
                              clear c29
                              have H' := Aside0.mk H
                              clear H
                              have hcz30_0 : w18.cell? ⟨gb244, 0, none⟩ = some (.int .i64 0) := (blk_cell BK244.out 0).trans rfl
                              have hcz30_1 : w18.cell? ⟨gb244, 1, none⟩ = some (.int .i64 0) := (blk_cell BK244.out 1).trans rfl
                              have hcz30_2 : w18.cell? ⟨gb244, 2, none⟩ = some (.int .i64 0) := (blk_cell BK244.out 2).trans rfl
                              have hfz30_0 := blk_frozen BK244.out 0
                              have hfz30_1 := blk_frozen BK244.out 1
                              have hfz30_2 := blk_frozen BK244.out 2
                              go_wp2_with (first | (go_at_call 57; (with_reducible refine (impl_within.calls ((rd_T67 l2 x23_1).f0) 0 (wrap64 (a1 - 1)) true _ A20.out).mono ?_); rintro e w' ⟨rfl, ⟨nd, rfl⟩⟩; (try first | exact ⟨rfl, _, World.drewN_drewN _ _ _⟩ | exact ⟨rfl, _, Eq.trans (World.drewN_drewN _ _ _) (congrArg (World.drewN _) (Nat.add_assoc _ _ _))⟩)) | (go_at_call 57; (with_reducible refine (impl_within.calls ((rd_T67 l2 x23_1).f1) 1 (wrap64 (a1 - 1)) true _ A22.out).mono ?_); rintro e w' ⟨rfl, ⟨nd, rfl⟩⟩; (try first | exact ⟨rfl, _, World.drewN_drewN _ _ _⟩ | exact ⟨rfl, _, Eq.trans (World.drewN_drewN _ _ _) (congrArg (World.drewN _) (Nat.add_assoc _ _ _))⟩)) | (go_at_call 145; (with_reducible refine (impl_isMinute.calls ((rd_T67 l2 x23_1).f2) true _ A26.out).mono ?_); rintro e w' ⟨rfl, ⟨nd, rfl⟩⟩; (try first | exact ⟨rfl, _, World.drewN_drewN _ _ _⟩ | exact ⟨rfl, _, Eq.trans (World.drewN_drewN _ _ _) (congrArg (World.drewN _) (Nat.add_assoc _ _ _))⟩); have p248 : 0 ≤ (((rd_T67 l2 x23_1).f1) : Int) := of_decide_eq_true (by first | (with_reducible assumption) | assumption); have q248 : ((rd_T67 l2 x23_1).f1) < (x8_1.length : Int) := of_decide_eq_true (by first | (with_reducible assumption) | assumption); obtain ⟨ad248, e248, hx248_0⟩ := Kd.at_int (Kd.R_reads' HO_8.out).2.2 ((rd_T67 l2 x23_1).f1) p248 q248; obtain rfl : (⟨go7, 0, none⟩ : Addr) = ad248 := (by injection e248); (first | simp only [add_plain] at hx248_0 | simp only [add_at] at hx248_0 | simp only [Addr.add, Nat.zero_add] at hx248_0 | skip); have hn248_0 : (⟨go7, 0, none⟩ : Addr).block ≠ gb244 := Kd.own_blk (Kd.R_ne HO_8.out BK244.out (by decide)); have hn248_1 : (⟨go7, 0, none⟩ : Addr).block ≠ gb244 := Kd.own_blk (Kd.R_ne HO_8.out BK244.out (by decide)); have hn248_2 : (⟨go7, 0, none⟩ : Addr).block ≠ gb244 := Kd.own_blk (Kd.R_ne HO_8.out BK244.out (by decide)); replace hx248_0 := (cell_far (p := ⟨gb244, 0, none⟩) (by first | (rw [add_block]; exact hn248_0) | (show (Addr.add _ _).block ≠ _; rw [add_block]; exact hn248_0) | exact hn248_0) (.int .i64 ((rd_T67 l2 x23_1).f0))).trans hx248_0; replace hx248_0 := (cell_far (p := ⟨gb244, 1, none⟩) (by first | (rw [add_block]; exact hn248_1) | (show (Addr.add _ _).block ≠ _; rw [add_block]; exact hn248_1) | exact hn248_1) (.int .i64 ((rd_T67 l2 x23_1).f1))).trans hx248_0; replace hx248_0 := (cell_far (p := ⟨gb244, 2, none⟩) (by first | (rw [add_block]; exact hn248_2) | (show (Addr.add _ _).block ≠ _; rw [add_block]; exact hn248_2) | exact hn248_2) (.int .i64 ((rd_T67 l2 x23_1).f2))).trans hx248_0; (try have hy248_0 := fun (n_ : Nat) => (show (((((w18.drewN n_).setCell ⟨gb244, 0, none⟩ (.int .i64 ((rd_T67 l2 x23_1).f0))).setCell ⟨gb244, 1, none⟩ (.int .i64 ((rd_T67 l2 x23_1).f1))).setCell ⟨gb244, 2, none⟩ (.int .i64 ((rd_T67 l2 x23_1).f2)))).cell? _ = some _ from hx248_0)); clear hn248_0; clear hn248_1; clear hn248_2; replace p248 := eq_true p248; replace q248 := eq_true q248))
                              repeat (go_quiet (first | (go_at_call 57; (with_reducible refine (impl_within.calls ((rd_T67 l2 x23_1).f0) 0 (wrap64 (a1 - 1)) true _ A20.out).mono ?_); rintro e w' ⟨rfl, ⟨nd, rfl⟩⟩; (try first | exact ⟨rfl, _, World.drewN_drewN _ _ _⟩ | exact ⟨rfl, _, Eq.trans (World.drewN_drewN _ _ _) (congrArg (World.drewN _) (Nat.add_assoc _ _ _))⟩)) | (go_at_call 57; (with_reducible refine (impl_within.calls ((rd_T67 l2 x23_1).f1) 1 (wrap64 (a1 - 1)) true _ A22.out).mono ?_); rintro e w' ⟨rfl, ⟨nd, rfl⟩⟩; (try first | exact ⟨rfl, _, World.drewN_drewN _ _ _⟩ | exact ⟨rfl, _, Eq.trans (World.drewN_drewN _ _ _) (congrArg (World.drewN _) (Nat.add_assoc _ _ _))⟩)) | (go_at_call 145; (with_reducible refine (impl_isMinute.calls ((rd_T67 l2 x23_1).f2) true _ A26.out).mono ?_); rintro e w' ⟨rfl, ⟨nd, rfl⟩⟩; (try first | exact ⟨rfl, _, World.drewN_drewN _ _ _⟩ | exact ⟨rfl, _, Eq.trans (World.drewN_drewN _ _ _) (congrArg (World.drewN _) (Nat.add_assoc _ _ _))⟩); have p248 : 0 ≤ (((rd_T67 l2 x23_1).f1) : Int) := of_decide_eq_true (by first | (with_reducible assumption) | assumption); have q248 : ((rd_T67 l2 x23_1).f1) < (x8_1.length : Int) := of_decide_eq_true (by first | (with_reducible assumption) | assumption); obtain ⟨ad248, e248, hx248_0⟩ := Kd.at_int (Kd.R_reads' HO_8.out).2.2 ((rd_T67 l2 x23_1).f1) p248 q248; obtain rfl : (⟨go7, 0, none⟩ : Addr) = ad248 := (by injection e248); (first | simp only [add_plain] at hx248_0 | simp only [add_at] at hx248_0 | simp only [Addr.add, Nat.zero_add] at hx248_0 | skip); have hn248_0 : (⟨go7, 0, none⟩ : Addr).block ≠ gb244 := Kd.own_blk (Kd.R_ne HO_8.out BK244.out (by decide)); have hn248_1 : (⟨go7, 0, none⟩ : Addr).block ≠ gb244 := Kd.own_blk (Kd.R_ne HO_8.out BK244.out (by decide)); have hn248_2 : (⟨go7, 0, none⟩ : Addr).block ≠ gb244 := Kd.own_blk (Kd.R_ne HO_8.out BK244.out (by decide)); replace hx248_0 := (cell_far (p := ⟨gb244, 0, none⟩) (by first | (rw [add_block]; exact hn248_0) | (show (Addr.add _ _).block ≠ _; rw [add_block]; exact hn248_0) | exact hn248_0) (.int .i64 ((rd_T67 l2 x23_1).f0))).trans hx248_0; replace hx248_0 := (cell_far (p := ⟨gb244, 1, none⟩) (by first | (rw [add_block]; exact hn248_1) | (show (Addr.add _ _).block ≠ _; rw [add_block]; exact hn248_1) | exact hn248_1) (.int .i64 ((rd_T67 l2 x23_1).f1))).trans hx248_0; replace hx248_0 := (cell_far (p := ⟨gb244, 2, none⟩) (by first | (rw [add_block]; exact hn248_2) | (show (Addr.add _ _).block ≠ _; rw [add_block]; exact hn248_2) | exact hn248_2) (.int .i64 ((rd_T67 l2 x23_1).f2))).trans hx248_0; (try have hy248_0 := fun (n_ : Nat) => (show (((((w18.drewN n_).setCell ⟨gb244, 0, none⟩ (.int .i64 ((rd_T67 l2 x23_1).f0))).setCell ⟨gb244, 1, none⟩ (.int .i64 ((rd_T67 l2 x23_1).f1))).setCell ⟨gb244, 2, none⟩ (.int .i64 ((rd_T67 l2 x23_1).f2)))).cell? _ = some _ from hx248_0)); clear hn248_0; clear hn248_1; clear hn248_2; replace p248 := eq_true p248; replace q248 := eq_true q248)); try go_wp2_with (first | (go_at_call 57; (with_reducible refine (impl_within.calls ((rd_T67 l2 x23_1).f0) 0 (wrap64 (a1 - 1)) true _ A20.out).mono ?_); rintro e w' ⟨rfl, ⟨nd, rfl⟩⟩; (try first | exact ⟨rfl, _, World.drewN_drewN _ _ _⟩ | exact ⟨rfl, _, Eq.trans (World.drewN_drewN _ _ _) (congrArg (World.drewN _) (Nat.add_assoc _ _ _))⟩)) | (go_at_call 57; (with_reducible refine (impl_within.calls ((rd_T67 l2 x23_1).f1) 1 (wrap64 (a1 - 1)) true _ A22.out).mono ?_); rintro e w' ⟨rfl, ⟨nd, rfl⟩⟩; (try first | exact ⟨rfl, _, World.drewN_drewN _ _ _⟩ | exact ⟨rfl, _, Eq.trans (World.drewN_drewN _ _ _) (congrArg (World.drewN _) (Nat.add_assoc _ _ _))⟩)) | (go_at_call 145; (with_reducible refine (impl_isMinute.calls ((rd_T67 l2 x23_1).f2) true _ A26.out).mono ?_); rintro e w' ⟨rfl, ⟨nd, rfl⟩⟩; (try first | exact ⟨rfl, _, World.drewN_drewN _ _ _⟩ | exact ⟨rfl, _, Eq.trans (World.drewN_drewN _ _ _) (congrArg (World.drewN _) (Nat.add_assoc _ _ _))⟩); have p248 : 0 ≤ (((rd_T67 l2 x23_1).f1) : Int) := of_decide_eq_true (by first | (with_reducible assumption) | assumption); have q248 : ((rd_T67 l2 x23_1).f1) < (x8_1.length : Int) := of_decide_eq_true (by first | (with_reducible assumption) | assumption); obtain ⟨ad248, e248, hx248_0⟩ := Kd.at_int (Kd.R_reads' HO_8.out).2.2 ((rd_T67 l2 x23_1).f1) p248 q248; obtain rfl : (⟨go7, 0, none⟩ : Addr) = ad248 := (by injection e248); (first | simp only [add_plain] at hx248_0 | simp only [add_at] at hx248_0 | simp only [Addr.add, Nat.zero_add] at hx248_0 | skip); have hn248_0 : (⟨go7, 0, none⟩ : Addr).block ≠ gb244 := Kd.own_blk (Kd.R_ne HO_8.out BK244.out (by decide)); have hn248_1 : (⟨go7, 0, none⟩ : Addr).block ≠ gb244 := Kd.own_blk (Kd.R_ne HO_8.out BK244.out (by decide)); have hn248_2 : (⟨go7, 0, none⟩ : Addr).block ≠ gb244 := Kd.own_blk (Kd.R_ne HO_8.out BK244.out (by decide)); replace hx248_0 := (cell_far (p := ⟨gb244, 0, none⟩) (by first | (rw [add_block]; exact hn248_0) | (show (Addr.add _ _).block ≠ _; rw [add_block]; exact hn248_0) | exact hn248_0) (.int .i64 ((rd_T67 l2 x23_1).f0))).trans hx248_0; replace hx248_0 := (cell_far (p := ⟨gb244, 1, none⟩) (by first | (rw [add_block]; exact hn248_1) | (show (Addr.add _ _).block ≠ _; rw [add_block]; exact hn248_1) | exact hn248_1) (.int .i64 ((rd_T67 l2 x23_1).f1))).trans hx248_0; replace hx248_0 := (cell_far (p := ⟨gb244, 2, none⟩) (by first | (rw [add_block]; exact hn248_2) | (show (Addr.add _ _).block ≠ _; rw [add_block]; exact hn248_2) | exact hn248_2) (.int .i64 ((rd_T67 l2 x23_1).f2))).trans hx248_0; (try have hy248_0 := fun (n_ : Nat) => (show (((((w18.drewN n_).setCell ⟨gb244, 0, none⟩ (.int .i64 ((rd_T67 l2 x23_1).f0))).setCell ⟨gb244, 1, none⟩ (.int .i64 ((rd_T67 l2 x23_1).f1))).setCell ⟨gb244, 2, none⟩ (.int .i64 ((rd_T67 l2 x23_1).f2)))).cell? _ = some _ from hx248_0)); clear hn248_0; clear hn248_1; clear hn248_2; replace p248 := eq_true p248; replace q248 := eq_true q248)))
                              go_meet
                              case rel => exact ⟨_, (decide ((rd x8_1 ((rd_T67 l2 x23_1).f1)) ≥ 0)), (by first | rfl | (simp; done) | (simp [*]; done)), H', ⟨by have := HK1.out; first | omega | exact Nat.le_refl _⟩, ⟨by (try simp only [hl8_1]); (with_reducible repeat (first | apply Kd.R_alloc | apply Kd.R_drewN | apply Kd.R_drew)); exact Kd.R_mono (Kd.R_far (p := ⟨gb244, 2, none⟩) (Kd.R_far (p := ⟨gb244, 1, none⟩) (Kd.R_far (p := ⟨gb244, 0, none⟩) (Kd.R_types HO_8.out BK244.out (by decide)) (fun _ hk => hk.2) (.int .i64 ((rd_T67 l2 x23_1).f0))) (fun _ hk => hk.2) (.int .i64 ((rd_T67 l2 x23_1).f1))) (fun _ hk => hk.2) (.int .i64 ((rd_T67 l2 x23_1).f2))) (fun _ hk => trivial)⟩, ⟨by (try simp only [hl8_1]); (with_reducible repeat (first | refine blk_drewN ?_ _ | refine blk_drew ?_ | refine blk_alloc ?_ _)); refine blk_put (cs := #[.int .i64 ((rd_T67 l2 x23_1).f0), .int .i64 ((rd_T67 l2 x23_1).f1), .int .i64 0]) ?_ 2 _ rfl; (with_reducible repeat (first | refine blk_drewN ?_ _ | refine blk_drew ?_ | refine blk_alloc ?_ _)); refine blk_put (cs := #[.int .i64 ((rd_T67 l2 x23_1).f0), .int .i64 0, .int .i64 0]) ?_ 1 _ rfl; (with_reducible repeat (first | refine blk_drewN ?_ _ | refine blk_drew ?_ | refine blk_alloc ?_ _)); refine blk_put (cs := #[.int .i64 0, .int .i64 0, .int .i64 0]) ?_ 0 _ rfl; (with_reducible repeat (first | refine blk_drewN ?_ _ | refine blk_drew ?_ | refine blk_alloc ?_ _)); exact BK244.out⟩, ⟨by repeat (first | (with_reducible first | exact HB.out | apply below_alloc | apply pw_below_drewN | apply below_drew1 | refine below_set ?_ GE244.out) | exact HB.out)⟩⟩
                            · rw [if_neg c29] at H
                              exact absurd H (by simp)
                          · rw [if_neg c28] at H
                            exact absurd H (by simp)
                        · replace c27 := Bool.eq_false_iff.mpr c27
                          subst c27
                          have H1 : (impl_arrivals.j1 k1 a0 a1 l2 x8_1 x23_1 l2 (l2.length : Int) x23_1 true ((rd_T67 l2 x23_1).f0) ((rd_T67 l2 x23_1).f1) ((rd_T67 l2 x23_1).f2)) = some (r1, r2) := by rw [if_neg (show ¬ (false = true) by decide)] at H; exact H
                          clear H
                          have H := H1
                          clear H1
                          have H' := Aside0.mk H
                          clear H
                          have hcz31_0 : w18.cell? ⟨gb244, 0, none⟩ = some (.int .i64 0) := (blk_cell BK244.out 0).trans rfl
                          have hcz31_1 : w18.cell? ⟨gb244, 1, none⟩ = some (.int .i64 0) := (blk_cell BK244.out 1).trans rfl
                          have hcz31_2 : w18.cell? ⟨gb244, 2, none⟩ = some (.int .i64 0) := (blk_cell BK244.out 2).trans rfl
                          have hfz31_0 := blk_frozen BK244.out 0
                          have hfz31_1 := blk_frozen BK244.out 1
                          have hfz31_2 := blk_frozen BK244.out 2
                          go_wp2_with (first | (go_at_call 57; (with_reducible refine (impl_within.calls ((rd_T67 l2 x23_1).f0) 0 (wrap64 (a1 - 1)) true _ A20.out).mono ?_); rintro e w' ⟨rfl, ⟨nd, rfl⟩⟩; (try first | exact ⟨rfl, _, World.drewN_drewN _ _ _⟩ | exact ⟨rfl, _, Eq.trans (World.drewN_drewN _ _ _) (congrArg (World.drewN _) (Nat.add_assoc _ _ _))⟩)) | (go_at_call 57; (with_reducible refine (impl_within.calls ((rd_T67 l2 x23_1).f1) 1 (wrap64 (a1 - 1)) true _ A22.out).mono ?_); rintro e w' ⟨rfl, ⟨nd, rfl⟩⟩; (try first | exact ⟨rfl, _, World.drewN_drewN _ _ _⟩ | exact ⟨rfl, _, Eq.trans (World.drewN_drewN _ _ _) (congrArg (World.drewN _) (Nat.add_assoc _ _ _))⟩)) | (go_at_call 145; (with_reducible refine (impl_isMinute.calls ((rd_T67 l2 x23_1).f2) false _ A26.out).mono ?_); rintro e w' ⟨rfl, ⟨nd, rfl⟩⟩; (try first | exact ⟨rfl, _, World.drewN_drewN _ _ _⟩ | exact ⟨rfl, _, Eq.trans (World.drewN_drewN _ _ _) (congrArg (World.drewN _) (Nat.add_assoc _ _ _))⟩)))
                          repeat (go_quiet (first | (go_at_call 57; (with_reducible refine (impl_within.calls ((rd_T67 l2 x23_1).f0) 0 (wrap64 (a1 - 1)) true _ A20.out).mono ?_); rintro e w' ⟨rfl, ⟨nd, rfl⟩⟩; (try first | exact ⟨rfl, _, World.drewN_drewN _ _ _⟩ | exact ⟨rfl, _, Eq.trans (World.drewN_drewN _ _ _) (congrArg (World.drewN _) (Nat.add_assoc _ _ _))⟩)) | (go_at_call 57; (with_reducible refine (impl_within.calls ((rd_T67 l2 x23_1).f1) 1 (wrap64 (a1 - 1)) true _ A22.out).mono ?_); rintro e w' ⟨rfl, ⟨nd, rfl⟩⟩; (try first | exact ⟨rfl, _, World.drewN_drewN _ _ _⟩ | exact ⟨rfl, _, Eq.trans (World.drewN_drewN _ _ _) (congrArg (World.drewN _) (Nat.add_assoc _ _ _))⟩)) | (go_at_call 145; (with_reducible refine (impl_isMinute.calls ((rd_T67 l2 x23_1).f2) false _ A26.out).mono ?_); rintro e w' ⟨rfl, ⟨nd, rfl⟩⟩; (try first | exact ⟨rfl, _, World.drewN_drewN _ _ _⟩ | exact ⟨rfl, _, Eq.trans (World.drewN_drewN _ _ _) (congrArg (World.drewN _) (Nat.add_assoc _ _ _))⟩))); try go_wp2_with (first | (go_at_call 57; (with_reducible refine (impl_within.calls ((rd_T67 l2 x23_1).f0) 0 (wrap64 (a1 - 1)) true _ A20.out).mono ?_); rintro e w' ⟨rfl, ⟨nd, rfl⟩⟩; (try first | exact ⟨rfl, _, World.drewN_drewN _ _ _⟩ | exact ⟨rfl, _, Eq.trans (World.drewN_drewN _ _ _) (congrArg (World.drewN _) (Nat.add_assoc _ _ _))⟩)) | (go_at_call 57; (with_reducible refine (impl_within.calls ((rd_T67 l2 x23_1).f1) 1 (wrap64 (a1 - 1)) true _ A22.out).mono ?_); rintro e w' ⟨rfl, ⟨nd, rfl⟩⟩; (try first | exact ⟨rfl, _, World.drewN_drewN _ _ _⟩ | exact ⟨rfl, _, Eq.trans (World.drewN_drewN _ _ _) (congrArg (World.drewN _) (Nat.add_assoc _ _ _))⟩)) | (go_at_call 145; (with_reducible refine (impl_isMinute.calls ((rd_T67 l2 x23_1).f2) false _ A26.out).mono ?_); rintro e w' ⟨rfl, ⟨nd, rfl⟩⟩; (try first | exact ⟨rfl, _, World.drewN_drewN _ _ _⟩ | exact ⟨rfl, _, Eq.trans (World.drewN_drewN _ _ _) (congrArg (World.drewN _) (Nat.add_assoc _ _ _))⟩))))
                          go_meet
                          case rel => exact ⟨_, (true), (by first | rfl | (simp; done) | (simp [*]; done)), H', ⟨by have := HK1.out; first | omega | exact Nat.le_refl _⟩, ⟨by (try simp only [hl8_1]); (with_reducible repeat (first | apply Kd.R_alloc | apply Kd.R_drewN | apply Kd.R_drew)); exact Kd.R_mono (Kd.R_far (p := ⟨gb244, 2, none⟩) (Kd.R_far (p := ⟨gb244, 1, none⟩) (Kd.R_far (p := ⟨gb244, 0, none⟩) (Kd.R_types HO_8.out BK244.out (by decide)) (fun _ hk => hk.2) (.int .i64 ((rd_T67 l2 x23_1).f0))) (fun _ hk => hk.2) (.int .i64 ((rd_T67 l2 x23_1).f1))) (fun _ hk => hk.2) (.int .i64 ((rd_T67 l2 x23_1).f2))) (fun _ hk => trivial)⟩, ⟨by (try simp only [hl8_1]); (with_reducible repeat (first | refine blk_drewN ?_ _ | refine blk_drew ?_ | refine blk_alloc ?_ _)); refine blk_put (cs := #[.int .i64 ((rd_T67 l2 x23_1).f0), .int .i64 ((rd_T67 l2 x23_1).f1), .int .i64 0]) ?_ 2 _ rfl; (with_reducible repeat (first | refine blk_drewN ?_ _ | refine blk_drew ?_ | refine blk_alloc ?_ _)); refine blk_put (cs := #[.int .i64 ((rd_T67 l2 x23_1).f0), .int .i64 0, .int .i64 0]) ?_ 1 _ rfl; (with_reducible repeat (first | refine blk_drewN ?_ _ | refine blk_drew ?_ | refine blk_alloc ?_ _)); refine blk_put (cs := #[.int .i64 0, .int .i64 0, .int .i64 0]) ?_ 0 _ rfl; (with_reducible repeat (first | refine blk_drewN ?_ _ | refine blk_drew ?_ | refine blk_alloc ?_ _)); exact BK244.out⟩, ⟨by repeat (first | (with_reducible first | exact HB.out | apply below_alloc | apply pw_below_drewN | apply below_drew1 | refine below_set ?_ GE244.out) | exact HB.out)⟩⟩
                    · replace c23 := Bool.eq_false_iff.mpr c23
                      subst c23
                      have H1 : (impl_arrivals.j1 k1 a0 a1 l2 x8_1 x23_1 l2 (l2.length : Int) x23_1 true ((rd_T67 l2 x23_1).f0) ((rd_T67 l2 x23_1).f1) ((rd_T67 l2 x23_1).f2)) = some (r1, r2) := by rw [if_neg (show ¬ (false = true) by decide)] at H; exact H
                      clear H
                      have H := H1
                      clear H1
                      have H' := Aside0.mk H
                      clear H
                      have hcz32_0 : w18.cell? ⟨gb244, 0, none⟩ = some (.int .i64 0) := (blk_cell BK244.out 0).trans rfl
                      have hcz32_1 : w18.cell? ⟨gb244, 1, none⟩ = some (.int .i64 0) := (blk_cell BK244.out 1).trans rfl
                      have hcz32_2 : w18.cell? ⟨gb244, 2, none⟩ = some (.int .i64 0) := (blk_cell BK244.out 2).trans rfl
                      have hfz32_0 := blk_frozen BK244.out 0
                      have hfz32_1 := blk_frozen BK244.out 1
                      have hfz32_2 := blk_frozen BK244.out 2
                      go_wp2_with (first | (go_at_call 57; (with_reducible refine (impl_within.calls ((rd_T67 l2 x23_1).f0) 0 (wrap64 (a1 - 1)) true _ A20.out).mono ?_); rintro e w' ⟨rfl, ⟨nd, rfl⟩⟩; (try first | exact ⟨rfl, _, World.drewN_drewN _ _ _⟩ | exact ⟨rfl, _, Eq.trans (World.drewN_drewN _ _ _) (congrArg (World.drewN _) (Nat.add_assoc _ _ _))⟩)) | (go_at_call 57; (with_reducible refine (impl_within.calls ((rd_T67 l2 x23_1).f1) 1 (wrap64 (a1 - 1)) false _ A22.out).mono ?_); rintro e w' ⟨rfl, ⟨nd, rfl⟩⟩; (try first | exact ⟨rfl, _, World.drewN_drewN _ _ _⟩ | exact ⟨rfl, _, Eq.trans (World.drewN_drewN _ _ _) (congrArg (World.drewN _) (Nat.add_assoc _ _ _))⟩)))
                      repeat (go_quiet (first | (go_at_call 57; (with_reducible refine (impl_within.calls ((rd_T67 l2 x23_1).f0) 0 (wrap64 (a1 - 1)) true _ A20.out).mono ?_); rintro e w' ⟨rfl, ⟨nd, rfl⟩⟩; (try first | exact ⟨rfl, _, World.drewN_drewN _ _ _⟩ | exact ⟨rfl, _, Eq.trans (World.drewN_drewN _ _ _) (congrArg (World.drewN _) (Nat.add_assoc _ _ _))⟩)) | (go_at_call 57; (with_reducible refine (impl_within.calls ((rd_T67 l2 x23_1).f1) 1 (wrap64 (a1 - 1)) false _ A22.out).mono ?_); rintro e w' ⟨rfl, ⟨nd, rfl⟩⟩; (try first | exact ⟨rfl, _, World.drewN_drewN _ _ _⟩ | exact ⟨rfl, _, Eq.trans (World.drewN_drewN _ _ _) (congrArg (World.drewN _) (Nat.add_assoc _ _ _))⟩))); try go_wp2_with (first | (go_at_call 57; (with_reducible refine (impl_within.calls ((rd_T67 l2 x23_1).f0) 0 (wrap64 (a1 - 1)) true _ A20.out).mono ?_); rintro e w' ⟨rfl, ⟨nd, rfl⟩⟩; (try first | exact ⟨rfl, _, World.drewN_drewN _ _ _⟩ | exact ⟨rfl, _, Eq.trans (World.drewN_drewN _ _ _) (congrArg (World.drewN _) (Nat.add_assoc _ _ _))⟩)) | (go_at_call 57; (with_reducible refine (impl_within.calls ((rd_T67 l2 x23_1).f1) 1 (wrap64 (a1 - 1)) false _ A22.out).mono ?_); rintro e w' ⟨rfl, ⟨nd, rfl⟩⟩; (try first | exact ⟨rfl, _, World.drewN_drewN _ _ _⟩ | exact ⟨rfl, _, Eq.trans (World.drewN_drewN _ _ _) (congrArg (World.drewN _) (Nat.add_assoc _ _ _))⟩))))
                      go_meet
                      case rel => exact ⟨_, (true), (by first | rfl | (simp; done) | (simp [*]; done)), H', ⟨by have := HK1.out; first | omega | exact Nat.le_refl _⟩, ⟨by (try simp only [hl8_1]); (with_reducible repeat (first | apply Kd.R_alloc | apply Kd.R_drewN | apply Kd.R_drew)); exact Kd.R_mono (Kd.R_far (p := ⟨gb244, 2, none⟩) (Kd.R_far (p := ⟨gb244, 1, none⟩) (Kd.R_far (p := ⟨gb244, 0, none⟩) (Kd.R_types HO_8.out BK244.out (by decide)) (fun _ hk => hk.2) (.int .i64 ((rd_T67 l2 x23_1).f0))) (fun _ hk => hk.2) (.int .i64 ((rd_T67 l2 x23_1).f1))) (fun _ hk => hk.2) (.int .i64 ((rd_T67 l2 x23_1).f2))) (fun _ hk => trivial)⟩, ⟨by (try simp only [hl8_1]); (with_reducible repeat (first | refine blk_drewN ?_ _ | refine blk_drew ?_ | refine blk_alloc ?_ _)); refine blk_put (cs := #[.int .i64 ((rd_T67 l2 x23_1).f0), .int .i64 ((rd_T67 l2 x23_1).f1), .int .i64 0]) ?_ 2 _ rfl; (with_reducible repeat (first | refine blk_drewN ?_ _ | refine blk_drew ?_ | refine blk_alloc ?_ _)); refine blk_put (cs := #[.int .i64 ((rd_T67 l2 x23_1).f0), .int .i64 0, .int .i64 0]) ?_ 1 _ rfl; (with_reducible repeat (first | refine blk_drewN ?_ _ | refine blk_drew ?_ | refine blk_alloc ?_ _)); refine blk_put (cs := #[.int .i64 0, .int .i64 0, .int .i64 0]) ?_ 0 _ rfl; (with_reducible repeat (first | refine blk_drewN ?_ _ | refine blk_drew ?_ | refine blk_alloc ?_ _)); exact BK244.out⟩, ⟨by repeat (first | (with_reducible first | exact HB.out | apply below_alloc | apply pw_below_drewN | apply below_drew1 | refine below_set ?_ GE244.out) | exact HB.out)⟩⟩
                  · replace c21 := Bool.eq_false_iff.mpr c21
                    subst c21
                    have H1 : (impl_arrivals.j1 k1 a0 a1 l2 x8_1 x23_1 l2 (l2.length : Int) x23_1 true ((rd_T67 l2 x23_1).f0) ((rd_T67 l2 x23_1).f1) ((rd_T67 l2 x23_1).f2)) = some (r1, r2) := by rw [if_neg (show ¬ (false = true) by decide)] at H; exact H
                    clear H
                    have H := H1
                    clear H1
                    have H' := Aside0.mk H
                    clear H
                    have hcz33_0 : w18.cell? ⟨gb244, 0, none⟩ = some (.int .i64 0) := (blk_cell BK244.out 0).trans rfl
                    have hcz33_1 : w18.cell? ⟨gb244, 1, none⟩ = some (.int .i64 0) := (blk_cell BK244.out 1).trans rfl
                    have hcz33_2 : w18.cell? ⟨gb244, 2, none⟩ = some (.int .i64 0) := (blk_cell BK244.out 2).trans rfl
                    have hfz33_0 := blk_frozen BK244.out 0
                    have hfz33_1 := blk_frozen BK244.out 1
                    have hfz33_2 := blk_frozen BK244.out 2
                    go_wp2_with (first | (go_at_call 57; (with_reducible refine (impl_within.calls ((rd_T67 l2 x23_1).f0) 0 (wrap64 (a1 - 1)) false _ A20.out).mono ?_); rintro e w' ⟨rfl, ⟨nd, rfl⟩⟩; (try first | exact ⟨rfl, _, World.drewN_drewN _ _ _⟩ | exact ⟨rfl, _, Eq.trans (World.drewN_drewN _ _ _) (congrArg (World.drewN _) (Nat.add_assoc _ _ _))⟩)))
                    repeat (go_quiet (first | (go_at_call 57; (with_reducible refine (impl_within.calls ((rd_T67 l2 x23_1).f0) 0 (wrap64 (a1 - 1)) false _ A20.out).mono ?_); rintro e w' ⟨rfl, ⟨nd, rfl⟩⟩; (try first | exact ⟨rfl, _, World.drewN_drewN _ _ _⟩ | exact ⟨rfl, _, Eq.trans (World.drewN_drewN _ _ _) (congrArg (World.drewN _) (Nat.add_assoc _ _ _))⟩))); try go_wp2_with (first | (go_at_call 57; (with_reducible refine (impl_within.calls ((rd_T67 l2 x23_1).f0) 0 (wrap64 (a1 - 1)) false _ A20.out).mono ?_); rintro e w' ⟨rfl, ⟨nd, rfl⟩⟩; (try first | exact ⟨rfl, _, World.drewN_drewN _ _ _⟩ | exact ⟨rfl, _, Eq.trans (World.drewN_drewN _ _ _) (congrArg (World.drewN _) (Nat.add_assoc _ _ _))⟩))))
                    go_meet
                    case rel => exact ⟨_, (true), (by first | rfl | (simp; done) | (simp [*]; done)), H', ⟨by have := HK1.out; first | omega | exact Nat.le_refl _⟩, ⟨by (try simp only [hl8_1]); (with_reducible repeat (first | apply Kd.R_alloc | apply Kd.R_drewN | apply Kd.R_drew)); exact Kd.R_mono (Kd.R_far (p := ⟨gb244, 2, none⟩) (Kd.R_far (p := ⟨gb244, 1, none⟩) (Kd.R_far (p := ⟨gb244, 0, none⟩) (Kd.R_types HO_8.out BK244.out (by decide)) (fun _ hk => hk.2) (.int .i64 ((rd_T67 l2 x23_1).f0))) (fun _ hk => hk.2) (.int .i64 ((rd_T67 l2 x23_1).f1))) (fun _ hk => hk.2) (.int .i64 ((rd_T67 l2 x23_1).f2))) (fun _ hk => trivial)⟩, ⟨by (try simp only [hl8_1]); (with_reducible repeat (first | refine blk_drewN ?_ _ | refine blk_drew ?_ | refine blk_alloc ?_ _)); refine blk_put (cs := #[.int .i64 ((rd_T67 l2 x23_1).f0), .int .i64 ((rd_T67 l2 x23_1).f1), .int .i64 0]) ?_ 2 _ rfl; (with_reducible repeat (first | refine blk_drewN ?_ _ | refine blk_drew ?_ | refine blk_alloc ?_ _)); refine blk_put (cs := #[.int .i64 ((rd_T67 l2 x23_1).f0), .int .i64 0, .int .i64 0]) ?_ 1 _ rfl; (with_reducible repeat (first | refine blk_drewN ?_ _ | refine blk_drew ?_ | refine blk_alloc ?_ _)); refine blk_put (cs := #[.int .i64 0, .int .i64 0, .int .i64 0]) ?_ 0 _ rfl; (with_reducible repeat (first | refine blk_drewN ?_ _ | refine blk_drew ?_ | refine blk_alloc ?_ _)); exact BK244.out⟩, ⟨by repeat (first | (with_reducible first | exact HB.out | apply below_alloc | apply pw_below_drewN | apply below_drew1 | refine below_set ?_ GE244.out) | exact HB.out)⟩⟩
                case rest =>
                  clear HC17
                  try clear c1
                  try clear c2
                  try clear p2
                  try clear q2
                  try clear hx2
                  try clear c4
                  try clear c4b0
                  try clear c4b1
                  try clear c6
                  try clear c6b0
                  try clear c6b1
                  try clear p6
                  try clear p7
                  try clear q7
                  try clear hx7
                  try clear qi7
                  try clear hf7
                  try clear c12
                  try clear c14
                  try clear c14b0
                  try clear c15
                  try clear c15b0
                  try clear c16
                  try clear c16b0
                  try clear c21
                  try clear c23
                  try clear c24
                  try clear c24b0
                  try clear c24b1
                  try clear p24
                  try clear q24
                  try clear hx24
                  try clear c27
                  try clear c28
                  try clear c28b0
                  try clear c29
                  try clear c29b0
                  try clear hcz19_0
                  try clear hcz19_1
                  try clear hcz19_2
                  try clear hcz25_0
                  try clear hcz25_1
                  try clear hcz25_2
                  try clear hcz30_0
                  try clear hcz30_1
                  try clear hcz30_2
                  try clear hcz31_0
                  try clear hcz31_1
                  try clear hcz31_2
                  try clear hcz32_0
                  try clear hcz32_1
                  try clear hcz32_2
                  try clear hcz33_0
                  try clear hcz33_1
                  try clear hcz33_2
                  try clear hfz19_0
                  try clear hfz19_1
                  try clear hfz19_2
                  try clear hfz25_0
                  try clear hfz25_1
                  try clear hfz25_2
                  try clear hfz30_0
                  try clear hfz30_1
                  try clear hfz30_2
                  try clear hfz31_0
                  try clear hfz31_1
                  try clear hfz31_2
                  try clear hfz32_0
                  try clear hfz32_1
                  try clear hfz32_2
                  try clear hfz33_0
                  try clear hfz33_1
                  try clear hfz33_2
                  try clear hx243_0
                  try clear hx243_1
                  try clear hx243_2
                  try clear hx248_0
                  try clear hx7_0
                  try clear p2
                  try clear p243
                  try clear p248
                  try clear p7
                  try clear q243
                  try clear q248
                  try clear q7
                  obtain ⟨kq, x62_16, rfl, HA, HJ16, HO_8, BK244, HB⟩ := hcut
                  cases kq with
                  | zero => exact absurd HA.out (by simp [impl_arrivals.j1])
                  | succ kj16 =>
                    have H := HA.out
                    clear HA
                    simp only [impl_arrivals.j1] at H
                    by_cases c34 : x62_16 = true
                    · subst c34
                      have H1 : (some (([] : List Int), false)) = some (r1, r2) := by rw [if_pos rfl] at H; exact H
                      clear H
                      have H := H1
                      clear H1
                      simp only [Option.some.injEq, Prod.mk.injEq] at H
                      obtain ⟨rfl, rfl⟩ := H
                      go_wp2
                      repeat (go_quiet (fail); try go_wp2)
                      go_ret2
                      exact ⟨_, by first | rfl | (simp [errW_none, errW_some] <;> rfl) | (simp [*, errW_none, errW_some] <;> rfl), by first | exact Kd.R_nil _ _ _ _ _ | exact Kd.N_nil _ _ _ _ _ | exact Kd.V_nil _ _ _ _ _ | exact Kd.Q_nil _ _ _ _ _ | exact Kd.S_nil _ _ _ _ _, by repeat (first | (with_reducible first | exact HB.out | apply below_alloc | apply pw_below_drewN | apply below_drew1 | refine below_set ?_ GE244.out) | exact HB.out)⟩
                    · replace c34 := Bool.eq_false_iff.mpr c34
                      subst c34
                      have H1 : (if 0 ≤ x23_1 then (if x23_1 ≤ (l2.length : Int) then ((impl_arrivals_1.f (l2.take (x23_1 : Int).toNat) ((rd_T67 l2 x23_1).f0) ((rd_T67 l2 x23_1).f1) ((rd_T67 l2 x23_1).f2)).bind fun t253 => (if t253 = true then (some (([] : List Int), false)) else (if 0 ≤ ((rd_T67 l2 x23_1).f1) then (if ((rd_T67 l2 x23_1).f1) < (x8_1.length : Int) then (impl_arrivals.l0 kj16 a0 a1 l2 (x8_1.set (((rd_T67 l2 x23_1).f1) : Int).toNat (wrap64 (((rd_T67 l2 x23_1).f2) + a0))) l2 (l2.length : Int) (wrap64 (x23_1 + 1))) else (none)) else (none)))) else (none)) else (none)) = some (r1, r2) := by rw [if_neg (show ¬ (false = true) by decide)] at H; exact H
                      clear H
                      have H := H1
                      clear H1
                      by_cases c35 : 0 ≤ x23_1
                      · rw [if_pos c35] at H
                        have c35b0 := eq_true c35
                        have c35b1 : decide (0 ≤ x23_1) = true := decide_eq_true c35
                        clear c35
                        by_cases c36 : x23_1 ≤ (l2.length : Int)
                        · rw [if_pos c36] at H
                          have c36b0 := eq_true c36
                          have c36b1 : decide (x23_1 ≤ (l2.length : Int)) = true := decide_eq_true c36
                          clear c36
                          obtain ⟨y249, hy249⟩ : ∃ y_ : List (S67), y_ = (l2.take (x23_1 : Int).toNat) := ⟨_, rfl⟩
                          replace H : ((impl_arrivals_1.f y249 ((rd_T67 l2 x23_1).f0) ((rd_T67 l2 x23_1).f1) ((rd_T67 l2 x23_1).f2)).bind fun t253 => (if t253 = true then (some (([] : List Int), false)) else (if 0 ≤ ((rd_T67 l2 x23_1).f1) then (if ((rd_T67 l2 x23_1).f1) < (x8_1.length : Int) then (impl_arrivals.l0 kj16 a0 a1 l2 (x8_1.set (((rd_T67 l2 x23_1).f1) : Int).toNat (wrap64 (((rd_T67 l2 x23_1).f2) + a0))) l2 (l2.length : Int) (wrap64 (x23_1 + 1))) else (none)) else (none)))) = some (r1, r2) := by first | (rw [hy249]; with_reducible exact H) | (have H2_ := (Option.bind_some _ _).symm.trans H; rw [hy249]; with_reducible exact H2_) | (have H2_ := (Option.bind_some _ _).symm.trans H; with_reducible exact H2_) | with_reducible exact H | (rw [hy249]; exact H) | exact H
                          have Ny249 := Aside0.mk hy249
                          clear hy249
                          replace H := Option.bind_eq_some_iff.mp H
                          obtain ⟨t253, A370, H⟩ := H
                          replace H : (if t253 = true then (some (([] : List Int), false)) else (if 0 ≤ ((rd_T67 l2 x23_1).f1) then (if ((rd_T67 l2 x23_1).f1) < (x8_1.length : Int) then (impl_arrivals.l0 kj16 a0 a1 l2 (x8_1.set (((rd_T67 l2 x23_1).f1) : Int).toNat (wrap64 (((rd_T67 l2 x23_1).f2) + a0))) l2 (l2.length : Int) (wrap64 (x23_1 + 1))) else (none)) else (none))) = some (r1, r2) := H
                          have A37 := Aside0.mk A370
                          clear A370
                          by_cases c38 : t253 = true
                          · subst c38
                            have H1 : (some (([] : List Int), false)) = some (r1, r2) := by rw [if_pos rfl] at H; exact H
                            clear H
                            have H := H1
                            clear H1
                            simp only [Option.some.injEq, Prod.mk.injEq] at H
                            obtain ⟨rfl, rfl⟩ := H
                            have q39 : (x23_1 : Int) ≤ ((l2.length : Int) : Int) := of_decide_eq_true (by first | (with_reducible assumption) | assumption)
                            obtain ⟨i039, hi039, _, hsz39, _⟩ := info_parts info67
                            have hroom39 : l2.length ≤ c2 := HC2.out
                            have hC39 : Kd.C k67 _ (some ad243) l2.length l2 := HR2.out
                            have hcut39 := cut_to (P := Try.prog) 35 67 .i64 Try.underlying35 hi039 (some ad243) l2.length c2 x23_1 (of_decide_eq_true (by first | (with_reducible assumption) | assumption)) q39 hroom39
                            have hr39 := Kd.C_take (m := (x23_1 : Int).toNat) hC39 (by omega)
                            have hy39 : y249.length = (x23_1 : Int).toNat := (by rw [Ny249.out, List.length_take]; omega)
                            rw [← Ny249.out] at hr39
                            rw [← hy39] at hcut39
                            have HR252 := Aside0.mk hr39
                            have HC252 := Aside0.mk (show y249.length ≤ c2 from by omega)
                            clear hr39 hC39 hroom39 hi039 hsz39
                            have KY39 := Aside0.mk hy39
                            clear hy39
                            replace q39 := eq_true q39
                            go_wp2_with (first | (go_at_call 146; (with_reducible refine (impl_arrivals_1.calls _ _ y249 gb244 ((rd_T67 l2 x23_1).f0) ((rd_T67 l2 x23_1).f1) ((rd_T67 l2 x23_1).f2)  true _ ?side1 ?side2 ?side3 A37.out).mono ?_); (case side1 => repeat (first | exact (Kd.C_below HR252.out HB.out) | (with_reducible refine Kd.C_alloc ?_ _) | (with_reducible refine Kd.C_drewN ?_ _) | (with_reducible refine Kd.C_drew ?_))); (case side2 => exact HC252.out); (case side3 => exact (by (with_reducible repeat (first | refine blk_drewN ?_ _ | refine blk_drew ?_ | refine blk_alloc ?_ _)); exact BK244.out)); rintro e w40 ⟨rfl, hb⟩; have n0_ := Aside0.mk (Kd.R_below (by (with_reducible repeat (first | apply Kd.R_alloc | apply Kd.R_drewN | apply Kd.R_drew)); exact HO_8.out) hb); have n1_ := Aside0.mk (blk_below (g := gb244) (o := .cells #[.int .i64 ((rd_T67 l2 x23_1).f0), .int .i64 ((rd_T67 l2 x23_1).f1), .int .i64 ((rd_T67 l2 x23_1).f2)] 67 (0, 0)) (by (with_reducible repeat (first | refine blk_drewN ?_ _ | refine blk_drew ?_ | refine blk_alloc ?_ _)); exact BK244.out) hb); have n2_ := Aside0.mk (below_step (by repeat (first | (with_reducible first | exact HB.out | apply below_alloc | apply pw_below_drewN | apply below_drew1 | refine below_set ?_ GE244.out) | exact HB.out)) hb); clear HO_8; clear BK244; clear HB; have HO_8 := n0_; have BK244 := n1_; have HB := n2_; clear n0_ n1_ n2_; (try clear hb); (try clear hb2); (try clear hk); (try clear hi)))
                            repeat (go_quiet (first | (go_at_call 146; (with_reducible refine (impl_arrivals_1.calls _ _ y249 gb244 ((rd_T67 l2 x23_1).f0) ((rd_T67 l2 x23_1).f1) ((rd_T67 l2 x23_1).f2)  true _ ?side1 ?side2 ?side3 A37.out).mono ?_); (case side1 => repeat (first | exact (Kd.C_below HR252.out HB.out) | (with_reducible refine Kd.C_alloc ?_ _) | (with_reducible refine Kd.C_drewN ?_ _) | (with_reducible refine Kd.C_drew ?_))); (case side2 => exact HC252.out); (case side3 => exact (by (with_reducible repeat (first | refine blk_drewN ?_ _ | refine blk_drew ?_ | refine blk_alloc ?_ _)); exact BK244.out)); rintro e w40 ⟨rfl, hb⟩; have n0_ := Aside0.mk (Kd.R_below (by (with_reducible repeat (first | apply Kd.R_alloc | apply Kd.R_drewN | apply Kd.R_drew)); exact HO_8.out) hb); have n1_ := Aside0.mk (blk_below (g := gb244) (o := .cells #[.int .i64 ((rd_T67 l2 x23_1).f0), .int .i64 ((rd_T67 l2 x23_1).f1), .int .i64 ((rd_T67 l2 x23_1).f2)] 67 (0, 0)) (by (with_reducible repeat (first | refine blk_drewN ?_ _ | refine blk_drew ?_ | refine blk_alloc ?_ _)); exact BK244.out) hb); have n2_ := Aside0.mk (below_step (by repeat (first | (with_reducible first | exact HB.out | apply below_alloc | apply pw_below_drewN | apply below_drew1 | refine below_set ?_ GE244.out) | exact HB.out)) hb); clear HO_8; clear BK244; clear HB; have HO_8 := n0_; have BK244 := n1_; have HB := n2_; clear n0_ n1_ n2_; (try clear hb); (try clear hb2); (try clear hk); (try clear hi))); try go_wp2_with (first | (go_at_call 146; (with_reducible refine (impl_arrivals_1.calls _ _ y249 gb244 ((rd_T67 l2 x23_1).f0) ((rd_T67 l2 x23_1).f1) ((rd_T67 l2 x23_1).f2)  true _ ?side1 ?side2 ?side3 A37.out).mono ?_); (case side1 => repeat (first | exact (Kd.C_below HR252.out HB.out) | (with_reducible refine Kd.C_alloc ?_ _) | (with_reducible refine Kd.C_drewN ?_ _) | (with_reducible refine Kd.C_drew ?_))); (case side2 => exact HC252.out); (case side3 => exact (by (with_reducible repeat (first | refine blk_drewN ?_ _ | refine blk_drew ?_ | refine blk_alloc ?_ _)); exact BK244.out)); rintro e w40 ⟨rfl, hb⟩; have n0_ := Aside0.mk (Kd.R_below (by (with_reducible repeat (first | apply Kd.R_alloc | apply Kd.R_drewN | apply Kd.R_drew)); exact HO_8.out) hb); have n1_ := Aside0.mk (blk_below (g := gb244) (o := .cells #[.int .i64 ((rd_T67 l2 x23_1).f0), .int .i64 ((rd_T67 l2 x23_1).f1), .int .i64 ((rd_T67 l2 x23_1).f2)] 67 (0, 0)) (by (with_reducible repeat (first | refine blk_drewN ?_ _ | refine blk_drew ?_ | refine blk_alloc ?_ _)); exact BK244.out) hb); have n2_ := Aside0.mk (below_step (by repeat (first | (with_reducible first | exact HB.out | apply below_alloc | apply pw_below_drewN | apply below_drew1 | refine below_set ?_ GE244.out) | exact HB.out)) hb); clear HO_8; clear BK244; clear HB; have HO_8 := n0_; have BK244 := n1_; have HB := n2_; clear n0_ n1_ n2_; (try clear hb); (try clear hb2); (try clear hk); (try clear hi))))
                            go_ret2
                            exact ⟨_, by first | rfl | (simp [errW_none, errW_some] <;> rfl) | (simp [*, errW_none, errW_some] <;> rfl), by first | exact Kd.R_nil _ _ _ _ _ | exact Kd.N_nil _ _ _ _ _ | exact Kd.V_nil _ _ _ _ _ | exact Kd.Q_nil _ _ _ _ _ | exact Kd.S_nil _ _ _ _ _, by repeat (first | (with_reducible first | exact HB.out | apply below_alloc | apply pw_below_drewN | apply below_drew1 | refine below_set ?_ GE244.out) | exact HB.out)⟩
                          · replace c38 := Bool.eq_false_iff.mpr c38
                            subst c38
                            have H1 : (if 0 ≤ ((rd_T67 l2 x23_1).f1) then (if ((rd_T67 l2 x23_1).f1) < (x8_1.length : Int) then (impl_arrivals.l0 kj16 a0 a1 l2 (x8_1.set (((rd_T67 l2 x23_1).f1) : Int).toNat (wrap64 (((rd_T67 l2 x23_1).f2) + a0))) l2 (l2.length : Int) (wrap64 (x23_1 + 1))) else (none)) else (none)) = some (r1, r2) := by rw [if_neg (show ¬ (false = true) by decide)] at H; exact H
                            clear H
                            have H := H1
                            clear H1
                            by_cases c41 : 0 ≤ ((rd_T67 l2 x23_1).f1)
                            · rw [if_pos c41] at H
                              have c41b0 : decide (0 ≤ ((rd_T67 l2 x23_1).f1)) = true := decide_eq_true c41
                              (try (have c41b0h := c41b0; simp only [hl8_1] at c41b0h))
                              clear c41
                              by_cases c42 : ((rd_T67 l2 x23_1).f1) < (x8_1.length : Int)
                              · rw [if_pos c42] at H
                                have c42b0 : decide (((rd_T67 l2 x23_1).f1) < (x8_1.length : Int)) = true := decide_eq_true c42
                                (try (have c42b0h := c42b0; simp only [hl8_1] at c42b0h))
                                clear c42
                                obtain ⟨y254, hy254⟩ : ∃ y_ : List Int, y_ = (x8_1.set (((rd_T67 l2 x23_1).f1) : Int).toNat (wrap64 (((rd_T67 l2 x23_1).f2) + a0))) := ⟨_, rfl⟩
                                replace H : (impl_arrivals.l0 kj16 a0 a1 l2 y254 l2 (l2.length : Int) (wrap64 (x23_1 + 1))) = some (r1, r2) := by first | (rw [hy254]; with_reducible exact H) | (have H2_ := (Option.bind_some _ _).symm.trans H; rw [hy254]; with_reducible exact H2_) | (have H2_ := (Option.bind_some _ _).symm.trans H; with_reducible exact H2_) | with_reducible exact H | (rw [hy254]; exact H) | exact H
                                have Ny254 := Aside0.mk hy254
                                clear hy254
                                have H' := Aside0.mk H
                                clear H
                                have q44 : (x23_1 : Int) ≤ ((l2.length : Int) : Int) := of_decide_eq_true (by first | (with_reducible assumption) | assumption)
                                obtain ⟨i044, hi044, _, hsz44, _⟩ := info_parts info67
                                have hroom44 : l2.length ≤ c2 := HC2.out
                                have hC44 : Kd.C k67 _ (some ad243) l2.length l2 := HR2.out
                                have hcut44 := cut_to (P := Try.prog) 35 67 .i64 Try.underlying35 hi044 (some ad243) l2.length c2 x23_1 (of_decide_eq_true (by first | (with_reducible assumption) | assumption)) q44 hroom44
                                have hr44 := Kd.C_take (m := (x23_1 : Int).toNat) hC44 (by omega)
                                have hy44 : y249.length = (x23_1 : Int).toNat := (by rw [Ny249.out, List.length_take]; omega)
                                rw [← Ny249.out] at hr44
                                rw [← hy44] at hcut44
                                have HR252 := Aside0.mk hr44
                                have HC252 := Aside0.mk (show y249.length ≤ c2 from by omega)
                                clear hr44 hC44 hroom44 hi044 hsz44
                                have KY44 := Aside0.mk hy44
                                clear hy44
                                replace q44 := eq_true q44
                                go_wp2_with (first | (go_at_call 146; (with_reducible refine (impl_arrivals_1.calls _ _ y249 gb244 ((rd_T67 l2 x23_1).f0) ((rd_T67 l2 x23_1).f1) ((rd_T67 l2 x23_1).f2)  false _ ?side1 ?side2 ?side3 A37.out).mono ?_); (case side1 => repeat (first | exact (Kd.C_below HR252.out HB.out) | (with_reducible refine Kd.C_alloc ?_ _) | (with_reducible refine Kd.C_drewN ?_ _) | (with_reducible refine Kd.C_drew ?_))); (case side2 => exact HC252.out); (case side3 => exact (by (with_reducible repeat (first | refine blk_drewN ?_ _ | refine blk_drew ?_ | refine blk_alloc ?_ _)); exact BK244.out)); rintro e w45 ⟨rfl, hb⟩; have n0_ := Aside0.mk (Kd.R_below (by (with_reducible repeat (first | apply Kd.R_alloc | apply Kd.R_drewN | apply Kd.R_drew)); exact HO_8.out) hb); have n1_ := Aside0.mk (blk_below (g := gb244) (o := .cells #[.int .i64 ((rd_T67 l2 x23_1).f0), .int .i64 ((rd_T67 l2 x23_1).f1), .int .i64 ((rd_T67 l2 x23_1).f2)] 67 (0, 0)) (by (with_reducible repeat (first | refine blk_drewN ?_ _ | refine blk_drew ?_ | refine blk_alloc ?_ _)); exact BK244.out) hb); have n2_ := Aside0.mk (below_step (by repeat (first | (with_reducible first | exact HB.out | apply below_alloc | apply pw_below_drewN | apply below_drew1 | refine below_set ?_ GE244.out) | exact HB.out)) hb); clear HO_8; clear BK244; clear HB; have HO_8 := n0_; have BK244 := n1_; have HB := n2_; clear n0_ n1_ n2_; (try clear hb); (try clear hb2); (try clear hk); (try clear hi); have hcz46_0 : w45.cell? ⟨gb244, 0, none⟩ = some (.int .i64 ((rd_T67 l2 x23_1).f0)) := (blk_cell BK244.out 0).trans rfl; have hcz46_1 : w45.cell? ⟨gb244, 1, none⟩ = some (.int .i64 ((rd_T67 l2 x23_1).f1)) := (blk_cell BK244.out 1).trans rfl; have hcz46_2 : w45.cell? ⟨gb244, 2, none⟩ = some (.int .i64 ((rd_T67 l2 x23_1).f2)) := (blk_cell BK244.out 2).trans rfl; have hfz46_0 := blk_frozen BK244.out 0; have hfz46_1 := blk_frozen BK244.out 1; have hfz46_2 := blk_frozen BK244.out 2; have p43 : 0 ≤ (((rd_T67 l2 x23_1).f1) : Int) := of_decide_eq_true (by first | (with_reducible assumption) | assumption); have q43 : (((rd_T67 l2 x23_1).f1) : Int) < ((x8_1.length : Int) : Int) := of_decide_eq_true (by first | (with_reducible assumption) | assumption); obtain ⟨hx43_0, hf43_0⟩ := Kd.R_celln 0 HO_8.out (((rd_T67 l2 x23_1).f1) : Int) p43 q43; replace p43 := eq_true p43; replace q43 := eq_true q43; obtain ⟨hy47_, hz47_⟩ := Kd.R_celln 0 HO_8.out (((rd_T67 l2 x23_1).f1) : Int) (of_decide_eq_true (by first | (with_reducible assumption) | assumption)) (of_decide_eq_true (by first | (with_reducible assumption) | assumption)); have HP47 := Kd.R_putg HO_8.out (((rd_T67 l2 x23_1).f1) : Int) (wrap64 (((rd_T67 l2 x23_1).f2) + a0))) | ((with_reducible refine gate_store (t := 3) (p := 75) rfl ?_); (try (rw [drewN_self w45]; generalize hq_ : World.drewN w45 _ = w45; have n0_ := Aside0.mk (Kd.R_at hq_ HO_8.out); have n1_ := Aside0.mk (blk_at hq_ BK244.out); have n2_ := Aside0.mk (below_at hq_ HB.out); clear hq_ HO_8 BK244 HB; have HO_8 := n0_; have BK244 := n1_; have HB := n2_; clear n0_ n1_ n2_; (try (obtain ⟨hy47_, hz47_⟩ := Kd.R_celln 0 HO_8.out (((rd_T67 l2 x23_1).f1) : Int) (of_decide_eq_true (by first | (with_reducible assumption) | assumption)) (of_decide_eq_true (by first | (with_reducible assumption) | assumption)))); (try (have HP47 := Kd.R_putg HO_8.out (((rd_T67 l2 x23_1).f1) : Int) (wrap64 (((rd_T67 l2 x23_1).f2) + a0)))))); refine store_event (t := 3) (p := 75) (v := ?vo_w48) (w1 := (w45.setCell ⟨go7, (((rd_T67 l2 x23_1).f1) : Int).toNat, none⟩ (.int .i64 (wrap64 (((rd_T67 l2 x23_1).f2) + a0))))) ?hg ?ho ?hn ?hr ?_; (case ho => rfl); (case hg => rfl); (case hn => rfl); (case hr => first | (go_simp; done) | (go_simp; rfl)); intro w48 hw; have hg : w45.grownBy w48 (some go7) := (by rw [hw]; exact HP47.2); have hp_ : Kd.R (Kd.int .i64) 3 w48 w.heap.size (fun _ => True) (.slice (some ⟨go7, 0, none⟩) x8_1.length co7) y254 := (by rw [hw, Ny254.out]; exact HP47.1); clear HP47; have n0_ := Aside0.mk (hp_); have n1_ := Aside0.mk (blk_grown (g := gb244) (o := .cells #[.int .i64 ((rd_T67 l2 x23_1).f0), .int .i64 ((rd_T67 l2 x23_1).f1), .int .i64 ((rd_T67 l2 x23_1).f2)] 67 (0, 0)) (by (with_reducible repeat (first | refine blk_drewN ?_ _ | refine blk_drew ?_ | refine blk_alloc ?_ _)); exact BK244.out) hg (Kd.R_ne HO_8.out BK244.out (by decide))); have n2_ := Aside0.mk ((by rw [hw]; exact below_set (HB.out) GB7.out : Below w.heap.size w w48)); clear HO_8; clear BK244; clear HB; have HO_8 := n0_; have BK244 := n1_; have HB := n2_; clear n0_ n1_ n2_; clear hg hw hp_))
                                repeat (go_quiet (first | (go_at_call 146; (with_reducible refine (impl_arrivals_1.calls _ _ y249 gb244 ((rd_T67 l2 x23_1).f0) ((rd_T67 l2 x23_1).f1) ((rd_T67 l2 x23_1).f2)  false _ ?side1 ?side2 ?side3 A37.out).mono ?_); (case side1 => repeat (first | exact (Kd.C_below HR252.out HB.out) | (with_reducible refine Kd.C_alloc ?_ _) | (with_reducible refine Kd.C_drewN ?_ _) | (with_reducible refine Kd.C_drew ?_))); (case side2 => exact HC252.out); (case side3 => exact (by (with_reducible repeat (first | refine blk_drewN ?_ _ | refine blk_drew ?_ | refine blk_alloc ?_ _)); exact BK244.out)); rintro e w45 ⟨rfl, hb⟩; have n0_ := Aside0.mk (Kd.R_below (by (with_reducible repeat (first | apply Kd.R_alloc | apply Kd.R_drewN | apply Kd.R_drew)); exact HO_8.out) hb); have n1_ := Aside0.mk (blk_below (g := gb244) (o := .cells #[.int .i64 ((rd_T67 l2 x23_1).f0), .int .i64 ((rd_T67 l2 x23_1).f1), .int .i64 ((rd_T67 l2 x23_1).f2)] 67 (0, 0)) (by (with_reducible repeat (first | refine blk_drewN ?_ _ | refine blk_drew ?_ | refine blk_alloc ?_ _)); exact BK244.out) hb); have n2_ := Aside0.mk (below_step (by repeat (first | (with_reducible first | exact HB.out | apply below_alloc | apply pw_below_drewN | apply below_drew1 | refine below_set ?_ GE244.out) | exact HB.out)) hb); clear HO_8; clear BK244; clear HB; have HO_8 := n0_; have BK244 := n1_; have HB := n2_; clear n0_ n1_ n2_; (try clear hb); (try clear hb2); (try clear hk); (try clear hi); have hcz46_0 : w45.cell? ⟨gb244, 0, none⟩ = some (.int .i64 ((rd_T67 l2 x23_1).f0)) := (blk_cell BK244.out 0).trans rfl; have hcz46_1 : w45.cell? ⟨gb244, 1, none⟩ = some (.int .i64 ((rd_T67 l2 x23_1).f1)) := (blk_cell BK244.out 1).trans rfl; have hcz46_2 : w45.cell? ⟨gb244, 2, none⟩ = some (.int .i64 ((rd_T67 l2 x23_1).f2)) := (blk_cell BK244.out 2).trans rfl; have hfz46_0 := blk_frozen BK244.out 0; have hfz46_1 := blk_frozen BK244.out 1; have hfz46_2 := blk_frozen BK244.out 2; have p43 : 0 ≤ (((rd_T67 l2 x23_1).f1) : Int) := of_decide_eq_true (by first | (with_reducible assumption) | assumption); have q43 : (((rd_T67 l2 x23_1).f1) : Int) < ((x8_1.length : Int) : Int) := of_decide_eq_true (by first | (with_reducible assumption) | assumption); obtain ⟨hx43_0, hf43_0⟩ := Kd.R_celln 0 HO_8.out (((rd_T67 l2 x23_1).f1) : Int) p43 q43; replace p43 := eq_true p43; replace q43 := eq_true q43; obtain ⟨hy47_, hz47_⟩ := Kd.R_celln 0 HO_8.out (((rd_T67 l2 x23_1).f1) : Int) (of_decide_eq_true (by first | (with_reducible assumption) | assumption)) (of_decide_eq_true (by first | (with_reducible assumption) | assumption)); have HP47 := Kd.R_putg HO_8.out (((rd_T67 l2 x23_1).f1) : Int) (wrap64 (((rd_T67 l2 x23_1).f2) + a0))) | ((with_reducible refine gate_store (t := 3) (p := 75) rfl ?_); (try (rw [drewN_self w45]; generalize hq_ : World.drewN w45 _ = w45; have n0_ := Aside0.mk (Kd.R_at hq_ HO_8.out); have n1_ := Aside0.mk (blk_at hq_ BK244.out); have n2_ := Aside0.mk (below_at hq_ HB.out); clear hq_ HO_8 BK244 HB; have HO_8 := n0_; have BK244 := n1_; have HB := n2_; clear n0_ n1_ n2_; (try (obtain ⟨hy47_, hz47_⟩ := Kd.R_celln 0 HO_8.out (((rd_T67 l2 x23_1).f1) : Int) (of_decide_eq_true (by first | (with_reducible assumption) | assumption)) (of_decide_eq_true (by first | (with_reducible assumption) | assumption)))); (try (have HP47 := Kd.R_putg HO_8.out (((rd_T67 l2 x23_1).f1) : Int) (wrap64 (((rd_T67 l2 x23_1).f2) + a0)))))); refine store_event (t := 3) (p := 75) (v := ?vo_w48) (w1 := (w45.setCell ⟨go7, (((rd_T67 l2 x23_1).f1) : Int).toNat, none⟩ (.int .i64 (wrap64 (((rd_T67 l2 x23_1).f2) + a0))))) ?hg ?ho ?hn ?hr ?_; (case ho => rfl); (case hg => rfl); (case hn => rfl); (case hr => first | (go_simp; done) | (go_simp; rfl)); intro w48 hw; have hg : w45.grownBy w48 (some go7) := (by rw [hw]; exact HP47.2); have hp_ : Kd.R (Kd.int .i64) 3 w48 w.heap.size (fun _ => True) (.slice (some ⟨go7, 0, none⟩) x8_1.length co7) y254 := (by rw [hw, Ny254.out]; exact HP47.1); clear HP47; have n0_ := Aside0.mk (hp_); have n1_ := Aside0.mk (blk_grown (g := gb244) (o := .cells #[.int .i64 ((rd_T67 l2 x23_1).f0), .int .i64 ((rd_T67 l2 x23_1).f1), .int .i64 ((rd_T67 l2 x23_1).f2)] 67 (0, 0)) (by (with_reducible repeat (first | refine blk_drewN ?_ _ | refine blk_drew ?_ | refine blk_alloc ?_ _)); exact BK244.out) hg (Kd.R_ne HO_8.out BK244.out (by decide))); have n2_ := Aside0.mk ((by rw [hw]; exact below_set (HB.out) GB7.out : Below w.heap.size w w48)); clear HO_8; clear BK244; clear HB; have HO_8 := n0_; have BK244 := n1_; have HB := n2_; clear n0_ n1_ n2_; clear hg hw hp_)); try go_wp2_with (first | (go_at_call 146; (with_reducible refine (impl_arrivals_1.calls _ _ y249 gb244 ((rd_T67 l2 x23_1).f0) ((rd_T67 l2 x23_1).f1) ((rd_T67 l2 x23_1).f2)  false _ ?side1 ?side2 ?side3 A37.out).mono ?_); (case side1 => repeat (first | exact (Kd.C_below HR252.out HB.out) | (with_reducible refine Kd.C_alloc ?_ _) | (with_reducible refine Kd.C_drewN ?_ _) | (with_reducible refine Kd.C_drew ?_))); (case side2 => exact HC252.out); (case side3 => exact (by (with_reducible repeat (first | refine blk_drewN ?_ _ | refine blk_drew ?_ | refine blk_alloc ?_ _)); exact BK244.out)); rintro e w45 ⟨rfl, hb⟩; have n0_ := Aside0.mk (Kd.R_below (by (with_reducible repeat (first | apply Kd.R_alloc | apply Kd.R_drewN | apply Kd.R_drew)); exact HO_8.out) hb); have n1_ := Aside0.mk (blk_below (g := gb244) (o := .cells #[.int .i64 ((rd_T67 l2 x23_1).f0), .int .i64 ((rd_T67 l2 x23_1).f1), .int .i64 ((rd_T67 l2 x23_1).f2)] 67 (0, 0)) (by (with_reducible repeat (first | refine blk_drewN ?_ _ | refine blk_drew ?_ | refine blk_alloc ?_ _)); exact BK244.out) hb); have n2_ := Aside0.mk (below_step (by repeat (first | (with_reducible first | exact HB.out | apply below_alloc | apply pw_below_drewN | apply below_drew1 | refine below_set ?_ GE244.out) | exact HB.out)) hb); clear HO_8; clear BK244; clear HB; have HO_8 := n0_; have BK244 := n1_; have HB := n2_; clear n0_ n1_ n2_; (try clear hb); (try clear hb2); (try clear hk); (try clear hi); have hcz46_0 : w45.cell? ⟨gb244, 0, none⟩ = some (.int .i64 ((rd_T67 l2 x23_1).f0)) := (blk_cell BK244.out 0).trans rfl; have hcz46_1 : w45.cell? ⟨gb244, 1, none⟩ = some (.int .i64 ((rd_T67 l2 x23_1).f1)) := (blk_cell BK244.out 1).trans rfl; have hcz46_2 : w45.cell? ⟨gb244, 2, none⟩ = some (.int .i64 ((rd_T67 l2 x23_1).f2)) := (blk_cell BK244.out 2).trans rfl; have hfz46_0 := blk_frozen BK244.out 0; have hfz46_1 := blk_frozen BK244.out 1; have hfz46_2 := blk_frozen BK244.out 2; have p43 : 0 ≤ (((rd_T67 l2 x23_1).f1) : Int) := of_decide_eq_true (by first | (with_reducible assumption) | assumption); have q43 : (((rd_T67 l2 x23_1).f1) : Int) < ((x8_1.length : Int) : Int) := of_decide_eq_true (by first | (with_reducible assumption) | assumption); obtain ⟨hx43_0, hf43_0⟩ := Kd.R_celln 0 HO_8.out (((rd_T67 l2 x23_1).f1) : Int) p43 q43; replace p43 := eq_true p43; replace q43 := eq_true q43; obtain ⟨hy47_, hz47_⟩ := Kd.R_celln 0 HO_8.out (((rd_T67 l2 x23_1).f1) : Int) (of_decide_eq_true (by first | (with_reducible assumption) | assumption)) (of_decide_eq_true (by first | (with_reducible assumption) | assumption)); have HP47 := Kd.R_putg HO_8.out (((rd_T67 l2 x23_1).f1) : Int) (wrap64 (((rd_T67 l2 x23_1).f2) + a0))) | ((with_reducible refine gate_store (t := 3) (p := 75) rfl ?_); (try (rw [drewN_self w45]; generalize hq_ : World.drewN w45 _ = w45; have n0_ := Aside0.mk (Kd.R_at hq_ HO_8.out); have n1_ := Aside0.mk (blk_at hq_ BK244.out); have n2_ := Aside0.mk (below_at hq_ HB.out); clear hq_ HO_8 BK244 HB; have HO_8 := n0_; have BK244 := n1_; have HB := n2_; clear n0_ n1_ n2_; (try (obtain ⟨hy47_, hz47_⟩ := Kd.R_celln 0 HO_8.out (((rd_T67 l2 x23_1).f1) : Int) (of_decide_eq_true (by first | (with_reducible assumption) | assumption)) (of_decide_eq_true (by first | (with_reducible assumption) | assumption)))); (try (have HP47 := Kd.R_putg HO_8.out (((rd_T67 l2 x23_1).f1) : Int) (wrap64 (((rd_T67 l2 x23_1).f2) + a0)))))); refine store_event (t := 3) (p := 75) (v := ?vo_w48) (w1 := (w45.setCell ⟨go7, (((rd_T67 l2 x23_1).f1) : Int).toNat, none⟩ (.int .i64 (wrap64 (((rd_T67 l2 x23_1).f2) + a0))))) ?hg ?ho ?hn ?hr ?_; (case ho => rfl); (case hg => rfl); (case hn => rfl); (case hr => first | (go_simp; done) | (go_simp; rfl)); intro w48 hw; have hg : w45.grownBy w48 (some go7) := (by rw [hw]; exact HP47.2); have hp_ : Kd.R (Kd.int .i64) 3 w48 w.heap.size (fun _ => True) (.slice (some ⟨go7, 0, none⟩) x8_1.length co7) y254 := (by rw [hw, Ny254.out]; exact HP47.1); clear HP47; have n0_ := Aside0.mk (hp_); have n1_ := Aside0.mk (blk_grown (g := gb244) (o := .cells #[.int .i64 ((rd_T67 l2 x23_1).f0), .int .i64 ((rd_T67 l2 x23_1).f1), .int .i64 ((rd_T67 l2 x23_1).f2)] 67 (0, 0)) (by (with_reducible repeat (first | refine blk_drewN ?_ _ | refine blk_drew ?_ | refine blk_alloc ?_ _)); exact BK244.out) hg (Kd.R_ne HO_8.out BK244.out (by decide))); have n2_ := Aside0.mk ((by rw [hw]; exact below_set (HB.out) GB7.out : Below w.heap.size w w48)); clear HO_8; clear BK244; clear HB; have HO_8 := n0_; have BK244 := n1_; have HB := n2_; clear n0_ n1_ n2_; clear hg hw hp_)))
                                (try simp only [← hl8_1])
                                go_roundg kj16
                                case measure => have := HK1.out; have := HJ16.out; omega
                                case rel => exact ⟨(y254), (wrap64 (x23_1 + 1)), (by first | rfl | (simp; done) | (simp [*]; done)), H', ⟨by have := HK1.out; have := HJ16.out; omega⟩, ⟨by (try simp only [hl8_1]); (with_reducible repeat (first | apply Kd.R_alloc | apply Kd.R_drewN | apply Kd.R_drew)); exact HO_8.out⟩, ⟨by repeat (first | (with_reducible first | exact HB.out | apply below_alloc | apply pw_below_drewN | apply below_drew1 | refine below_set ?_ GE244.out) | exact HB.out)⟩⟩
                              · rw [if_neg c42] at H
                                exact absurd H (by simp)
                            · rw [if_neg c41] at H
                              exact absurd H (by simp)
                        · rw [if_neg c36] at H
                          exact absurd H (by simp)
                      · rw [if_neg c35] at H
                        exact absurd H (by simp)
              · rw [if_neg c16] at H
                exact absurd H (by simp)
            · rw [if_neg c15] at H
              exact absurd H (by simp)
          · rw [if_neg c14] at H
            have c14b0 : decide (x23_1 < (l2.length : Int)) = false := decide_eq_false c14
            (try (have c14b0h := c14b0; simp only [hl8_1] at c14b0h))
            clear c14
            have H' := Aside0.mk H
            clear H
            go_wp2
            repeat (go_quiet (fail); try go_wp2)
            go_loopg [79] k1 (fun kq v79 w' => ∃ (x79_2 : Int), v79 = .int .i64 x79_2 ∧ Aside0 (impl_arrivals.l1 kq x8_1 l2 (l2.length : Int) x79_2 = some (r1, r2)) ∧ Aside0 (kq ≤ k1) ∧ Aside0 (Kd.R (Kd.int .i64) 3 w' w.heap.size (fun _ => True) (.slice (some ⟨go7, 0, none⟩) x8_1.length co7) x8_1) ∧ Aside0 (Below w.heap.size w w'))
            case atStart => exact ⟨(0), (by first | rfl | (simp; done) | (simp [*]; done)), H', ⟨Nat.le_refl _⟩, ⟨by (try simp only [hl8_1]); (with_reducible repeat (first | apply Kd.R_alloc | apply Kd.R_drewN | apply Kd.R_drew)); exact HO_8.out⟩, ⟨by repeat (first | (with_reducible first | exact HB.out | apply below_alloc | apply pw_below_drewN | apply below_drew1) | exact HB.out)⟩⟩
            case round =>
              clear H'
              try clear c1
              try clear c2
              try clear p2
              try clear q2
              try clear hx2
              try clear c3
              try clear q3
              try clear c4
              try clear c4b0
              try clear c4b1
              try clear p4
              try clear q4
              try clear hx4
              try clear hf4
              try clear c6
              try clear c6b0
              try clear c6b1
              try clear p6
              try clear p7
              try clear q7
              try clear hx7
              try clear qi7
              try clear hf7
              try clear c12
              try clear c14
              try clear c14b0
              try clear c15
              try clear c15b0
              try clear c16
              try clear c16b0
              try clear c21
              try clear c23
              try clear c24
              try clear c24b0
              try clear c24b1
              try clear p24
              try clear q24
              try clear hx24
              try clear c27
              try clear c28
              try clear c28b0
              try clear c29
              try clear c29b0
              try clear c34
              try clear c35
              try clear c35b0
              try clear c35b1
              try clear c36
              try clear c36b0
              try clear c36b1
              try clear c38
              try clear q39
              try clear c41
              try clear c41b0
              try clear c42
              try clear c42b0
              try clear p43
              try clear q43
              try clear hx43
              try clear hf43
              try clear q44
              try clear hcz19_0
              try clear hcz19_1
              try clear hcz19_2
              try clear hcz25_0
              try clear hcz25_1
              try clear hcz25_2
              try clear hcz30_0
              try clear hcz30_1
              try clear hcz30_2
              try clear hcz31_0
              try clear hcz31_1
              try clear hcz31_2
              try clear hcz32_0
              try clear hcz32_1
              try clear hcz32_2
              try clear hcz33_0
              try clear hcz33_1
              try clear hcz33_2
              try clear hcz46_0
              try clear hcz46_1
              try clear hcz46_2
              try clear hfz19_0
              try clear hfz19_1
              try clear hfz19_2
              try clear hfz25_0
              try clear hfz25_1
              try clear hfz25_2
              try clear hfz30_0
              try clear hfz30_1
              try clear hfz30_2
              try clear hfz31_0
              try clear hfz31_1
              try clear hfz31_2
              try clear hfz32_0
              try clear hfz32_1
              try clear hfz32_2
              try clear hfz33_0
              try clear hfz33_1
              try clear hfz33_2
              try clear hfz46_0
              try clear hfz46_1
              try clear hfz46_2
              try clear hx243_0
              try clear hx243_1
              try clear hx243_2
              try clear hx248_0
              try clear hx43_0
              try clear hx7_0
              try clear p2
              try clear p24
              try clear p243
              try clear p248
              try clear p43
              try clear p6
              try clear p7
              try clear q2
              try clear q24
              try clear q243
              try clear q248
              try clear q39
              try clear q43
              try clear q44
              try clear q7
              obtain ⟨x79_2, rfl, HA, HK2, HO_8, HB⟩ := hrel
              cases gk with
              | zero => exact absurd HA.out (by simp [impl_arrivals.l1])
              | succ k2 =>
                have H := HA.out
                clear HA
                simp only [impl_arrivals.l1] at H
                by_cases c49 : x79_2 < (l2.length : Int)
                · rw [if_pos c49] at H
                  have c49b0 : decide (x79_2 < (l2.length : Int)) = true := decide_eq_true c49
                  (try (have c49b0h := c49b0; simp only [hl8_1] at c49b0h))
                  clear c49
                  by_cases c50 : 0 ≤ x79_2
                  · rw [if_pos c50] at H
                    have c50b0 : decide (0 ≤ x79_2) = true := decide_eq_true c50
                    (try (have c50b0h := c50b0; simp only [hl8_1] at c50b0h))
                    clear c50
                    by_cases c51 : x79_2 < (l2.length : Int)
                    · rw [if_pos c51] at H
                      have c51b0 : decide (x79_2 < (l2.length : Int)) = true := decide_eq_true c51
                      (try (have c51b0h := c51b0; simp only [hl8_1] at c51b0h))
                      clear c51
                      by_cases c52 : 0 ≤ ((rd_T67 l2 x79_2).f0)
                      · rw [if_pos c52] at H
                        have c52b0 : decide (0 ≤ ((rd_T67 l2 x79_2).f0)) = true := decide_eq_true c52
                        (try (have c52b0h := c52b0; simp only [hl8_1] at c52b0h))
                        clear c52
                        by_cases c53 : ((rd_T67 l2 x79_2).f0) < (x8_1.length : Int)
                        · rw [if_pos c53] at H
                          have c53b0 : decide (((rd_T67 l2 x79_2).f0) < (x8_1.length : Int)) = true := decide_eq_true c53
                          (try (have c53b0h := c53b0; simp only [hl8_1] at c53b0h))
                          clear c53
                          by_cases c54 : (rd x8_1 ((rd_T67 l2 x79_2).f0)) < 0
                          · rw [if_pos c54] at H
                            have c54b0 : decide ((rd x8_1 ((rd_T67 l2 x79_2).f0)) < 0) = true := decide_eq_true c54
                            (try (have c54b0h := c54b0; simp only [hl8_1] at c54b0h))
                            clear c54
                            simp only [Option.some.injEq, Prod.mk.injEq] at H
                            obtain ⟨rfl, rfl⟩ := H
                            have p255 : 0 ≤ (x79_2 : Int) := of_decide_eq_true (by first | (with_reducible assumption) | assumption)
                            have q255 : x79_2 < (l2.length : Int) := of_decide_eq_true (by first | (with_reducible assumption) | assumption)
                            obtain ⟨ad255, e255, hx255_0, hx255_1, hx255_2⟩ := at_T67 HR2.out x79_2 p255 q255
                            cases e255
                            replace hx255_0 := (HB.out.cell (World.block_lt_of_cell? w _ hx255_0)).trans hx255_0
                            replace hx255_1 := (HB.out.cell (World.block_lt_of_cell? w _ hx255_1)).trans hx255_1
                            replace hx255_2 := (HB.out.cell (World.block_lt_of_cell? w _ hx255_2)).trans hx255_2
                            replace p255 := eq_true p255
                            replace q255 := eq_true q255
                            go_wp2_with (first | ((with_reducible refine gate_dst (N := 12) rfl ?_); refine box_event ?hg (N := 12) ?hd (cs := #[.int .i64 0, .int .i64 0, .int .i64 0]) (t := 67) ?hr ?_; (case hd => rfl); (case hg => rfl); (case hr => first | (go_simp; done) | (go_simp; rfl)); intro gb256 hg w55 hbox hb; have n0_ := Aside0.mk (Kd.R_below (by (with_reducible repeat (first | apply Kd.R_alloc | apply Kd.R_drewN | apply Kd.R_drew)); exact HO_8.out) hb); have n1_ := Aside0.mk (below_step (by repeat (first | (with_reducible first | exact HB.out | apply below_alloc | apply pw_below_drewN | apply below_drew1) | exact HB.out)) hb); have n2_ := Aside0.mk (hbox); have n3_ := Aside0.mk ((by rw [hg]; exact (below_size (by repeat (first | (with_reducible first | exact HB.out | apply below_alloc | apply pw_below_drewN | apply below_drew1) | exact HB.out))) : w.heap.size ≤ gb256)); have n4_ := Aside0.mk ((by rw [hg]; exact (below_size (by repeat (first | (with_reducible first | exact HB.out | apply below_alloc | apply pw_below_drewN | apply below_drew1) | exact HB.out))) : w.heap.size ≤ gb256)); clear HO_8; clear HB; have HO_8 := n0_; have HB := n1_; have BK256 := n2_; have GW256 := n3_; have GE256 := n4_; clear n0_ n1_ n2_ n3_ n4_; clear hb hbox hg; have hcz56_0 : w55.cell? ⟨gb256, 0, none⟩ = some (.int .i64 0) := (blk_cell BK256.out 0).trans rfl; have hcz56_1 : w55.cell? ⟨gb256, 1, none⟩ = some (.int .i64 0) := (blk_cell BK256.out 1).trans rfl; have hcz56_2 : w55.cell? ⟨gb256, 2, none⟩ = some (.int .i64 0) := (blk_cell BK256.out 2).trans rfl; have hfz56_0 := blk_frozen BK256.out 0; have hfz56_1 := blk_frozen BK256.out 1; have hfz56_2 := blk_frozen BK256.out 2; have p257 : 0 ≤ (((rd_T67 l2 x79_2).f0) : Int) := of_decide_eq_true (by first | (with_reducible assumption) | assumption); have q257 : ((rd_T67 l2 x79_2).f0) < (x8_1.length : Int) := of_decide_eq_true (by first | (with_reducible assumption) | assumption); obtain ⟨ad257, e257, hx257_0⟩ := Kd.at_int (Kd.R_reads' HO_8.out).2.2 ((rd_T67 l2 x79_2).f0) p257 q257; obtain rfl : (⟨go7, 0, none⟩ : Addr) = ad257 := (by injection e257); (first | simp only [add_plain] at hx257_0 | simp only [add_at] at hx257_0 | simp only [Addr.add, Nat.zero_add] at hx257_0 | skip); have hn257_0 : (⟨go7, 0, none⟩ : Addr).block ≠ gb256 := Kd.own_blk (Kd.R_ne HO_8.out BK256.out (by decide)); have hn257_1 : (⟨go7, 0, none⟩ : Addr).block ≠ gb256 := Kd.own_blk (Kd.R_ne HO_8.out BK256.out (by decide)); have hn257_2 : (⟨go7, 0, none⟩ : Addr).block ≠ gb256 := Kd.own_blk (Kd.R_ne HO_8.out BK256.out (by decide)); replace hx257_0 := (cell_far (p := ⟨gb256, 0, none⟩) (by first | (rw [add_block]; exact hn257_0) | (show (Addr.add _ _).block ≠ _; rw [add_block]; exact hn257_0) | exact hn257_0) (.int .i64 ((rd_T67 l2 x79_2).f0))).trans hx257_0; replace hx257_0 := (cell_far (p := ⟨gb256, 1, none⟩) (by first | (rw [add_block]; exact hn257_1) | (show (Addr.add _ _).block ≠ _; rw [add_block]; exact hn257_1) | exact hn257_1) (.int .i64 ((rd_T67 l2 x79_2).f1))).trans hx257_0; replace hx257_0 := (cell_far (p := ⟨gb256, 2, none⟩) (by first | (rw [add_block]; exact hn257_2) | (show (Addr.add _ _).block ≠ _; rw [add_block]; exact hn257_2) | exact hn257_2) (.int .i64 ((rd_T67 l2 x79_2).f2))).trans hx257_0; (try have hy257_0 := fun (n_ : Nat) => (show (((((w55.drewN n_).setCell ⟨gb256, 0, none⟩ (.int .i64 ((rd_T67 l2 x79_2).f0))).setCell ⟨gb256, 1, none⟩ (.int .i64 ((rd_T67 l2 x79_2).f1))).setCell ⟨gb256, 2, none⟩ (.int .i64 ((rd_T67 l2 x79_2).f2)))).cell? _ = some _ from hx257_0)); clear hn257_0; clear hn257_1; clear hn257_2; replace p257 := eq_true p257; replace q257 := eq_true q257))
                            repeat (go_quiet (first | ((with_reducible refine gate_dst (N := 12) rfl ?_); refine box_event ?hg (N := 12) ?hd (cs := #[.int .i64 0, .int .i64 0, .int .i64 0]) (t := 67) ?hr ?_; (case hd => rfl); (case hg => rfl); (case hr => first | (go_simp; done) | (go_simp; rfl)); intro gb256 hg w55 hbox hb; have n0_ := Aside0.mk (Kd.R_below (by (with_reducible repeat (first | apply Kd.R_alloc | apply Kd.R_drewN | apply Kd.R_drew)); exact HO_8.out) hb); have n1_ := Aside0.mk (below_step (by repeat (first | (with_reducible first | exact HB.out | apply below_alloc | apply pw_below_drewN | apply below_drew1) | exact HB.out)) hb); have n2_ := Aside0.mk (hbox); have n3_ := Aside0.mk ((by rw [hg]; exact (below_size (by repeat (first | (with_reducible first | exact HB.out | apply below_alloc | apply pw_below_drewN | apply below_drew1) | exact HB.out))) : w.heap.size ≤ gb256)); have n4_ := Aside0.mk ((by rw [hg]; exact (below_size (by repeat (first | (with_reducible first | exact HB.out | apply below_alloc | apply pw_below_drewN | apply below_drew1) | exact HB.out))) : w.heap.size ≤ gb256)); clear HO_8; clear HB; have HO_8 := n0_; have HB := n1_; have BK256 := n2_; have GW256 := n3_; have GE256 := n4_; clear n0_ n1_ n2_ n3_ n4_; clear hb hbox hg; have hcz56_0 : w55.cell? ⟨gb256, 0, none⟩ = some (.int .i64 0) := (blk_cell BK256.out 0).trans rfl; have hcz56_1 : w55.cell? ⟨gb256, 1, none⟩ = some (.int .i64 0) := (blk_cell BK256.out 1).trans rfl; have hcz56_2 : w55.cell? ⟨gb256, 2, none⟩ = some (.int .i64 0) := (blk_cell BK256.out 2).trans rfl; have hfz56_0 := blk_frozen BK256.out 0; have hfz56_1 := blk_frozen BK256.out 1; have hfz56_2 := blk_frozen BK256.out 2; have p257 : 0 ≤ (((rd_T67 l2 x79_2).f0) : Int) := of_decide_eq_true (by first | (with_reducible assumption) | assumption); have q257 : ((rd_T67 l2 x79_2).f0) < (x8_1.length : Int) := of_decide_eq_true (by first | (with_reducible assumption) | assumption); obtain ⟨ad257, e257, hx257_0⟩ := Kd.at_int (Kd.R_reads' HO_8.out).2.2 ((rd_T67 l2 x79_2).f0) p257 q257; obtain rfl : (⟨go7, 0, none⟩ : Addr) = ad257 := (by injection e257); (first | simp only [add_plain] at hx257_0 | simp only [add_at] at hx257_0 | simp only [Addr.add, Nat.zero_add] at hx257_0 | skip); have hn257_0 : (⟨go7, 0, none⟩ : Addr).block ≠ gb256 := Kd.own_blk (Kd.R_ne HO_8.out BK256.out (by decide)); have hn257_1 : (⟨go7, 0, none⟩ : Addr).block ≠ gb256 := Kd.own_blk (Kd.R_ne HO_8.out BK256.out (by decide)); have hn257_2 : (⟨go7, 0, none⟩ : Addr).block ≠ gb256 := Kd.own_blk (Kd.R_ne HO_8.out BK256.out (by decide)); replace hx257_0 := (cell_far (p := ⟨gb256, 0, none⟩) (by first | (rw [add_block]; exact hn257_0) | (show (Addr.add _ _).block ≠ _; rw [add_block]; exact hn257_0) | exact hn257_0) (.int .i64 ((rd_T67 l2 x79_2).f0))).trans hx257_0; replace hx257_0 := (cell_far (p := ⟨gb256, 1, none⟩) (by first | (rw [add_block]; exact hn257_1) | (show (Addr.add _ _).block ≠ _; rw [add_block]; exact hn257_1) | exact hn257_1) (.int .i64 ((rd_T67 l2 x79_2).f1))).trans hx257_0; replace hx257_0 := (cell_far (p := ⟨gb256, 2, none⟩) (by first | (rw [add_block]; exact hn257_2) | (show (Addr.add _ _).block ≠ _; rw [add_block]; exact hn257_2) | exact hn257_2) (.int .i64 ((rd_T67 l2 x79_2).f2))).trans hx257_0; (try have hy257_0 := fun (n_ : Nat) => (show (((((w55.drewN n_).setCell ⟨gb256, 0, none⟩ (.int .i64 ((rd_T67 l2 x79_2).f0))).setCell ⟨gb256, 1, none⟩ (.int .i64 ((rd_T67 l2 x79_2).f1))).setCell ⟨gb256, 2, none⟩ (.int .i64 ((rd_T67 l2 x79_2).f2)))).cell? _ = some _ from hx257_0)); clear hn257_0; clear hn257_1; clear hn257_2; replace p257 := eq_true p257; replace q257 := eq_true q257)); try go_wp2_with (first | ((with_reducible refine gate_dst (N := 12) rfl ?_); refine box_event ?hg (N := 12) ?hd (cs := #[.int .i64 0, .int .i64 0, .int .i64 0]) (t := 67) ?hr ?_; (case hd => rfl); (case hg => rfl); (case hr => first | (go_simp; done) | (go_simp; rfl)); intro gb256 hg w55 hbox hb; have n0_ := Aside0.mk (Kd.R_below (by (with_reducible repeat (first | apply Kd.R_alloc | apply Kd.R_drewN | apply Kd.R_drew)); exact HO_8.out) hb); have n1_ := Aside0.mk (below_step (by repeat (first | (with_reducible first | exact HB.out | apply below_alloc | apply pw_below_drewN | apply below_drew1) | exact HB.out)) hb); have n2_ := Aside0.mk (hbox); have n3_ := Aside0.mk ((by rw [hg]; exact (below_size (by repeat (first | (with_reducible first | exact HB.out | apply below_alloc | apply pw_below_drewN | apply below_drew1) | exact HB.out))) : w.heap.size ≤ gb256)); have n4_ := Aside0.mk ((by rw [hg]; exact (below_size (by repeat (first | (with_reducible first | exact HB.out | apply below_alloc | apply pw_below_drewN | apply below_drew1) | exact HB.out))) : w.heap.size ≤ gb256)); clear HO_8; clear HB; have HO_8 := n0_; have HB := n1_; have BK256 := n2_; have GW256 := n3_; have GE256 := n4_; clear n0_ n1_ n2_ n3_ n4_; clear hb hbox hg; have hcz56_0 : w55.cell? ⟨gb256, 0, none⟩ = some (.int .i64 0) := (blk_cell BK256.out 0).trans rfl; have hcz56_1 : w55.cell? ⟨gb256, 1, none⟩ = some (.int .i64 0) := (blk_cell BK256.out 1).trans rfl; have hcz56_2 : w55.cell? ⟨gb256, 2, none⟩ = some (.int .i64 0) := (blk_cell BK256.out 2).trans rfl; have hfz56_0 := blk_frozen BK256.out 0; have hfz56_1 := blk_frozen BK256.out 1; have hfz56_2 := blk_frozen BK256.out 2; have p257 : 0 ≤ (((rd_T67 l2 x79_2).f0) : Int) := of_decide_eq_true (by first | (with_reducible assumption) | assumption); have q257 : ((rd_T67 l2 x79_2).f0) < (x8_1.length : Int) := of_decide_eq_true (by first | (with_reducible assumption) | assumption); obtain ⟨ad257, e257, hx257_0⟩ := Kd.at_int (Kd.R_reads' HO_8.out).2.2 ((rd_T67 l2 x79_2).f0) p257 q257; obtain rfl : (⟨go7, 0, none⟩ : Addr) = ad257 := (by injection e257); (first | simp only [add_plain] at hx257_0 | simp only [add_at] at hx257_0 | simp only [Addr.add, Nat.zero_add] at hx257_0 | skip); have hn257_0 : (⟨go7, 0, none⟩ : Addr).block ≠ gb256 := Kd.own_blk (Kd.R_ne HO_8.out BK256.out (by decide)); have hn257_1 : (⟨go7, 0, none⟩ : Addr).block ≠ gb256 := Kd.own_blk (Kd.R_ne HO_8.out BK256.out (by decide)); have hn257_2 : (⟨go7, 0, none⟩ : Addr).block ≠ gb256 := Kd.own_blk (Kd.R_ne HO_8.out BK256.out (by decide)); replace hx257_0 := (cell_far (p := ⟨gb256, 0, none⟩) (by first | (rw [add_block]; exact hn257_0) | (show (Addr.add _ _).block ≠ _; rw [add_block]; exact hn257_0) | exact hn257_0) (.int .i64 ((rd_T67 l2 x79_2).f0))).trans hx257_0; replace hx257_0 := (cell_far (p := ⟨gb256, 1, none⟩) (by first | (rw [add_block]; exact hn257_1) | (show (Addr.add _ _).block ≠ _; rw [add_block]; exact hn257_1) | exact hn257_1) (.int .i64 ((rd_T67 l2 x79_2).f1))).trans hx257_0; replace hx257_0 := (cell_far (p := ⟨gb256, 2, none⟩) (by first | (rw [add_block]; exact hn257_2) | (show (Addr.add _ _).block ≠ _; rw [add_block]; exact hn257_2) | exact hn257_2) (.int .i64 ((rd_T67 l2 x79_2).f2))).trans hx257_0; (try have hy257_0 := fun (n_ : Nat) => (show (((((w55.drewN n_).setCell ⟨gb256, 0, none⟩ (.int .i64 ((rd_T67 l2 x79_2).f0))).setCell ⟨gb256, 1, none⟩ (.int .i64 ((rd_T67 l2 x79_2).f1))).setCell ⟨gb256, 2, none⟩ (.int .i64 ((rd_T67 l2 x79_2).f2)))).cell? _ = some _ from hx257_0)); clear hn257_0; clear hn257_1; clear hn257_2; replace p257 := eq_true p257; replace q257 := eq_true q257)))
                            go_ret2
                            exact ⟨_, by first | rfl | (simp [errW_none, errW_some] <;> rfl) | (simp [*, errW_none, errW_some] <;> rfl), by first | exact Kd.R_nil _ _ _ _ _ | exact Kd.N_nil _ _ _ _ _ | exact Kd.V_nil _ _ _ _ _ | exact Kd.Q_nil _ _ _ _ _ | exact Kd.S_nil _ _ _ _ _, by repeat (first | (with_reducible first | exact HB.out | apply below_alloc | apply pw_below_drewN | apply below_drew1 | refine below_set ?_ GE256.out) | exact HB.out)⟩
                          · rw [if_neg c54] at H
                            have c54b0 : decide ((rd x8_1 ((rd_T67 l2 x79_2).f0)) < 0) = false := decide_eq_false c54
                            (try (have c54b0h := c54b0; simp only [hl8_1] at c54b0h))
                            clear c54
                            by_cases c57 : (rd x8_1 ((rd_T67 l2 x79_2).f0)) > ((rd_T67 l2 x79_2).f2)
                            · rw [if_pos c57] at H
                              have c57b0 : decide (((rd_T67 l2 x79_2).f2) < (rd x8_1 ((rd_T67 l2 x79_2).f0))) = true := decide_eq_true c57
                              (try (have c57b0h := c57b0; simp only [hl8_1] at c57b0h))
                              clear c57
                              simp only [Option.some.injEq, Prod.mk.injEq] at H
                              obtain ⟨rfl, rfl⟩ := H
                              have p255 : 0 ≤ (x79_2 : Int) := of_decide_eq_true (by first | (with_reducible assumption) | assumption)
                              have q255 : x79_2 < (l2.length : Int) := of_decide_eq_true (by first | (with_reducible assumption) | assumption)
                              obtain ⟨ad255, e255, hx255_0, hx255_1, hx255_2⟩ := at_T67 HR2.out x79_2 p255 q255
                              cases e255
                              replace hx255_0 := (HB.out.cell (World.block_lt_of_cell? w _ hx255_0)).trans hx255_0
                              replace hx255_1 := (HB.out.cell (World.block_lt_of_cell? w _ hx255_1)).trans hx255_1
                              replace hx255_2 := (HB.out.cell (World.block_lt_of_cell? w _ hx255_2)).trans hx255_2
                              replace p255 := eq_true p255
                              replace q255 := eq_true q255
                              go_wp2_with (first | ((with_reducible refine gate_dst (N := 12) rfl ?_); refine box_event ?hg (N := 12) ?hd (cs := #[.int .i64 0, .int .i64 0, .int .i64 0]) (t := 67) ?hr ?_; (case hd => rfl); (case hg => rfl); (case hr => first | (go_simp; done) | (go_simp; rfl)); intro gb256 hg w58 hbox hb; have n0_ := Aside0.mk (Kd.R_below (by (with_reducible repeat (first | apply Kd.R_alloc | apply Kd.R_drewN | apply Kd.R_drew)); exact HO_8.out) hb); have n1_ := Aside0.mk (below_step (by repeat (first | (with_reducible first | exact HB.out | apply below_alloc | apply pw_below_drewN | apply below_drew1) | exact HB.out)) hb); have n2_ := Aside0.mk (hbox); have n3_ := Aside0.mk ((by rw [hg]; exact (below_size (by repeat (first | (with_reducible first | exact HB.out | apply below_alloc | apply pw_below_drewN | apply below_drew1) | exact HB.out))) : w.heap.size ≤ gb256)); have n4_ := Aside0.mk ((by rw [hg]; exact (below_size (by repeat (first | (with_reducible first | exact HB.out | apply below_alloc | apply pw_below_drewN | apply below_drew1) | exact HB.out))) : w.heap.size ≤ gb256)); clear HO_8; clear HB; have HO_8 := n0_; have HB := n1_; have BK256 := n2_; have GW256 := n3_; have GE256 := n4_; clear n0_ n1_ n2_ n3_ n4_; clear hb hbox hg; have hcz59_0 : w58.cell? ⟨gb256, 0, none⟩ = some (.int .i64 0) := (blk_cell BK256.out 0).trans rfl; have hcz59_1 : w58.cell? ⟨gb256, 1, none⟩ = some (.int .i64 0) := (blk_cell BK256.out 1).trans rfl; have hcz59_2 : w58.cell? ⟨gb256, 2, none⟩ = some (.int .i64 0) := (blk_cell BK256.out 2).trans rfl; have hfz59_0 := blk_frozen BK256.out 0; have hfz59_1 := blk_frozen BK256.out 1; have hfz59_2 := blk_frozen BK256.out 2; have p257 : 0 ≤ (((rd_T67 l2 x79_2).f0) : Int) := of_decide_eq_true (by first | (with_reducible assumption) | assumption); have q257 : ((rd_T67 l2 x79_2).f0) < (x8_1.length : Int) := of_decide_eq_true (by first | (with_reducible assumption) | assumption); obtain ⟨ad257, e257, hx257_0⟩ := Kd.at_int (Kd.R_reads' HO_8.out).2.2 ((rd_T67 l2 x79_2).f0) p257 q257; obtain rfl : (⟨go7, 0, none⟩ : Addr) = ad257 := (by injection e257); (first | simp only [add_plain] at hx257_0 | simp only [add_at] at hx257_0 | simp only [Addr.add, Nat.zero_add] at hx257_0 | skip); have hn257_0 : (⟨go7, 0, none⟩ : Addr).block ≠ gb256 := Kd.own_blk (Kd.R_ne HO_8.out BK256.out (by decide)); have hn257_1 : (⟨go7, 0, none⟩ : Addr).block ≠ gb256 := Kd.own_blk (Kd.R_ne HO_8.out BK256.out (by decide)); have hn257_2 : (⟨go7, 0, none⟩ : Addr).block ≠ gb256 := Kd.own_blk (Kd.R_ne HO_8.out BK256.out (by decide)); replace hx257_0 := (cell_far (p := ⟨gb256, 0, none⟩) (by first | (rw [add_block]; exact hn257_0) | (show (Addr.add _ _).block ≠ _; rw [add_block]; exact hn257_0) | exact hn257_0) (.int .i64 ((rd_T67 l2 x79_2).f0))).trans hx257_0; replace hx257_0 := (cell_far (p := ⟨gb256, 1, none⟩) (by first | (rw [add_block]; exact hn257_1) | (show (Addr.add _ _).block ≠ _; rw [add_block]; exact hn257_1) | exact hn257_1) (.int .i64 ((rd_T67 l2 x79_2).f1))).trans hx257_0; replace hx257_0 := (cell_far (p := ⟨gb256, 2, none⟩) (by first | (rw [add_block]; exact hn257_2) | (show (Addr.add _ _).block ≠ _; rw [add_block]; exact hn257_2) | exact hn257_2) (.int .i64 ((rd_T67 l2 x79_2).f2))).trans hx257_0; (try have hy257_0 := fun (n_ : Nat) => (show (((((w58.drewN n_).setCell ⟨gb256, 0, none⟩ (.int .i64 ((rd_T67 l2 x79_2).f0))).setCell ⟨gb256, 1, none⟩ (.int .i64 ((rd_T67 l2 x79_2).f1))).setCell ⟨gb256, 2, none⟩ (.int .i64 ((rd_T67 l2 x79_2).f2)))).cell? _ = some _ from hx257_0)); clear hn257_0; clear hn257_1; clear hn257_2; replace p257 := eq_true p257; replace q257 := eq_true q257; have p258 : 0 ≤ (((rd_T67 l2 x79_2).f0) : Int) := of_decide_eq_true (by first | (with_reducible assumption) | assumption); have q258 : ((rd_T67 l2 x79_2).f0) < (x8_1.length : Int) := of_decide_eq_true (by first | (with_reducible assumption) | assumption); obtain ⟨ad258, e258, hx258_0⟩ := Kd.at_int (Kd.R_reads' HO_8.out).2.2 ((rd_T67 l2 x79_2).f0) p258 q258; obtain rfl : (⟨go7, 0, none⟩ : Addr) = ad258 := (by injection e258); (first | simp only [add_plain] at hx258_0 | simp only [add_at] at hx258_0 | simp only [Addr.add, Nat.zero_add] at hx258_0 | skip); have hn258_0 : (⟨go7, 0, none⟩ : Addr).block ≠ gb256 := Kd.own_blk (Kd.R_ne HO_8.out BK256.out (by decide)); have hn258_1 : (⟨go7, 0, none⟩ : Addr).block ≠ gb256 := Kd.own_blk (Kd.R_ne HO_8.out BK256.out (by decide)); have hn258_2 : (⟨go7, 0, none⟩ : Addr).block ≠ gb256 := Kd.own_blk (Kd.R_ne HO_8.out BK256.out (by decide)); replace hx258_0 := (cell_far (p := ⟨gb256, 0, none⟩) (by first | (rw [add_block]; exact hn258_0) | (show (Addr.add _ _).block ≠ _; rw [add_block]; exact hn258_0) | exact hn258_0) (.int .i64 ((rd_T67 l2 x79_2).f0))).trans hx258_0; replace hx258_0 := (cell_far (p := ⟨gb256, 1, none⟩) (by first | (rw [add_block]; exact hn258_1) | (show (Addr.add _ _).block ≠ _; rw [add_block]; exact hn258_1) | exact hn258_1) (.int .i64 ((rd_T67 l2 x79_2).f1))).trans hx258_0; replace hx258_0 := (cell_far (p := ⟨gb256, 2, none⟩) (by first | (rw [add_block]; exact hn258_2) | (show (Addr.add _ _).block ≠ _; rw [add_block]; exact hn258_2) | exact hn258_2) (.int .i64 ((rd_T67 l2 x79_2).f2))).trans hx258_0; (try have hy258_0 := fun (n_ : Nat) => (show (((((w58.drewN n_).setCell ⟨gb256, 0, none⟩ (.int .i64 ((rd_T67 l2 x79_2).f0))).setCell ⟨gb256, 1, none⟩ (.int .i64 ((rd_T67 l2 x79_2).f1))).setCell ⟨gb256, 2, none⟩ (.int .i64 ((rd_T67 l2 x79_2).f2)))).cell? _ = some _ from hx258_0)); clear hn258_0; clear hn258_1; clear hn258_2; replace p258 := eq_true p258; replace q258 := eq_true q258))
                              repeat (go_quiet (first | ((with_reducible refine gate_dst (N := 12) rfl ?_); refine box_event ?hg (N := 12) ?hd (cs := #[.int .i64 0, .int .i64 0, .int .i64 0]) (t := 67) ?hr ?_; (case hd => rfl); (case hg => rfl); (case hr => first | (go_simp; done) | (go_simp; rfl)); intro gb256 hg w58 hbox hb; have n0_ := Aside0.mk (Kd.R_below (by (with_reducible repeat (first | apply Kd.R_alloc | apply Kd.R_drewN | apply Kd.R_drew)); exact HO_8.out) hb); have n1_ := Aside0.mk (below_step (by repeat (first | (with_reducible first | exact HB.out | apply below_alloc | apply pw_below_drewN | apply below_drew1) | exact HB.out)) hb); have n2_ := Aside0.mk (hbox); have n3_ := Aside0.mk ((by rw [hg]; exact (below_size (by repeat (first | (with_reducible first | exact HB.out | apply below_alloc | apply pw_below_drewN | apply below_drew1) | exact HB.out))) : w.heap.size ≤ gb256)); have n4_ := Aside0.mk ((by rw [hg]; exact (below_size (by repeat (first | (with_reducible first | exact HB.out | apply below_alloc | apply pw_below_drewN | apply below_drew1) | exact HB.out))) : w.heap.size ≤ gb256)); clear HO_8; clear HB; have HO_8 := n0_; have HB := n1_; have BK256 := n2_; have GW256 := n3_; have GE256 := n4_; clear n0_ n1_ n2_ n3_ n4_; clear hb hbox hg; have hcz59_0 : w58.cell? ⟨gb256, 0, none⟩ = some (.int .i64 0) := (blk_cell BK256.out 0).trans rfl; have hcz59_1 : w58.cell? ⟨gb256, 1, none⟩ = some (.int .i64 0) := (blk_cell BK256.out 1).trans rfl; have hcz59_2 : w58.cell? ⟨gb256, 2, none⟩ = some (.int .i64 0) := (blk_cell BK256.out 2).trans rfl; have hfz59_0 := blk_frozen BK256.out 0; have hfz59_1 := blk_frozen BK256.out 1; have hfz59_2 := blk_frozen BK256.out 2; have p257 : 0 ≤ (((rd_T67 l2 x79_2).f0) : Int) := of_decide_eq_true (by first | (with_reducible assumption) | assumption); have q257 : ((rd_T67 l2 x79_2).f0) < (x8_1.length : Int) := of_decide_eq_true (by first | (with_reducible assumption) | assumption); obtain ⟨ad257, e257, hx257_0⟩ := Kd.at_int (Kd.R_reads' HO_8.out).2.2 ((rd_T67 l2 x79_2).f0) p257 q257; obtain rfl : (⟨go7, 0, none⟩ : Addr) = ad257 := (by injection e257); (first | simp only [add_plain] at hx257_0 | simp only [add_at] at hx257_0 | simp only [Addr.add, Nat.zero_add] at hx257_0 | skip); have hn257_0 : (⟨go7, 0, none⟩ : Addr).block ≠ gb256 := Kd.own_blk (Kd.R_ne HO_8.out BK256.out (by decide)); have hn257_1 : (⟨go7, 0, none⟩ : Addr).block ≠ gb256 := Kd.own_blk (Kd.R_ne HO_8.out BK256.out (by decide)); have hn257_2 : (⟨go7, 0, none⟩ : Addr).block ≠ gb256 := Kd.own_blk (Kd.R_ne HO_8.out BK256.out (by decide)); replace hx257_0 := (cell_far (p := ⟨gb256, 0, none⟩) (by first | (rw [add_block]; exact hn257_0) | (show (Addr.add _ _).block ≠ _; rw [add_block]; exact hn257_0) | exact hn257_0) (.int .i64 ((rd_T67 l2 x79_2).f0))).trans hx257_0; replace hx257_0 := (cell_far (p := ⟨gb256, 1, none⟩) (by first | (rw [add_block]; exact hn257_1) | (show (Addr.add _ _).block ≠ _; rw [add_block]; exact hn257_1) | exact hn257_1) (.int .i64 ((rd_T67 l2 x79_2).f1))).trans hx257_0; replace hx257_0 := (cell_far (p := ⟨gb256, 2, none⟩) (by first | (rw [add_block]; exact hn257_2) | (show (Addr.add _ _).block ≠ _; rw [add_block]; exact hn257_2) | exact hn257_2) (.int .i64 ((rd_T67 l2 x79_2).f2))).trans hx257_0; (try have hy257_0 := fun (n_ : Nat) => (show (((((w58.drewN n_).setCell ⟨gb256, 0, none⟩ (.int .i64 ((rd_T67 l2 x79_2).f0))).setCell ⟨gb256, 1, none⟩ (.int .i64 ((rd_T67 l2 x79_2).f1))).setCell ⟨gb256, 2, none⟩ (.int .i64 ((rd_T67 l2 x79_2).f2)))).cell? _ = some _ from hx257_0)); clear hn257_0; clear hn257_1; clear hn257_2; replace p257 := eq_true p257; replace q257 := eq_true q257; have p258 : 0 ≤ (((rd_T67 l2 x79_2).f0) : Int) := of_decide_eq_true (by first | (with_reducible assumption) | assumption); have q258 : ((rd_T67 l2 x79_2).f0) < (x8_1.length : Int) := of_decide_eq_true (by first | (with_reducible assumption) | assumption); obtain ⟨ad258, e258, hx258_0⟩ := Kd.at_int (Kd.R_reads' HO_8.out).2.2 ((rd_T67 l2 x79_2).f0) p258 q258; obtain rfl : (⟨go7, 0, none⟩ : Addr) = ad258 := (by injection e258); (first | simp only [add_plain] at hx258_0 | simp only [add_at] at hx258_0 | simp only [Addr.add, Nat.zero_add] at hx258_0 | skip); have hn258_0 : (⟨go7, 0, none⟩ : Addr).block ≠ gb256 := Kd.own_blk (Kd.R_ne HO_8.out BK256.out (by decide)); have hn258_1 : (⟨go7, 0, none⟩ : Addr).block ≠ gb256 := Kd.own_blk (Kd.R_ne HO_8.out BK256.out (by decide)); have hn258_2 : (⟨go7, 0, none⟩ : Addr).block ≠ gb256 := Kd.own_blk (Kd.R_ne HO_8.out BK256.out (by decide)); replace hx258_0 := (cell_far (p := ⟨gb256, 0, none⟩) (by first | (rw [add_block]; exact hn258_0) | (show (Addr.add _ _).block ≠ _; rw [add_block]; exact hn258_0) | exact hn258_0) (.int .i64 ((rd_T67 l2 x79_2).f0))).trans hx258_0; replace hx258_0 := (cell_far (p := ⟨gb256, 1, none⟩) (by first | (rw [add_block]; exact hn258_1) | (show (Addr.add _ _).block ≠ _; rw [add_block]; exact hn258_1) | exact hn258_1) (.int .i64 ((rd_T67 l2 x79_2).f1))).trans hx258_0; replace hx258_0 := (cell_far (p := ⟨gb256, 2, none⟩) (by first | (rw [add_block]; exact hn258_2) | (show (Addr.add _ _).block ≠ _; rw [add_block]; exact hn258_2) | exact hn258_2) (.int .i64 ((rd_T67 l2 x79_2).f2))).trans hx258_0; (try have hy258_0 := fun (n_ : Nat) => (show (((((w58.drewN n_).setCell ⟨gb256, 0, none⟩ (.int .i64 ((rd_T67 l2 x79_2).f0))).setCell ⟨gb256, 1, none⟩ (.int .i64 ((rd_T67 l2 x79_2).f1))).setCell ⟨gb256, 2, none⟩ (.int .i64 ((rd_T67 l2 x79_2).f2)))).cell? _ = some _ from hx258_0)); clear hn258_0; clear hn258_1; clear hn258_2; replace p258 := eq_true p258; replace q258 := eq_true q258)); try go_wp2_with (first | ((with_reducible refine gate_dst (N := 12) rfl ?_); refine box_event ?hg (N := 12) ?hd (cs := #[.int .i64 0, .int .i64 0, .int .i64 0]) (t := 67) ?hr ?_; (case hd => rfl); (case hg => rfl); (case hr => first | (go_simp; done) | (go_simp; rfl)); intro gb256 hg w58 hbox hb; have n0_ := Aside0.mk (Kd.R_below (by (with_reducible repeat (first | apply Kd.R_alloc | apply Kd.R_drewN | apply Kd.R_drew)); exact HO_8.out) hb); have n1_ := Aside0.mk (below_step (by repeat (first | (with_reducible first | exact HB.out | apply below_alloc | apply pw_below_drewN | apply below_drew1) | exact HB.out)) hb); have n2_ := Aside0.mk (hbox); have n3_ := Aside0.mk ((by rw [hg]; exact (below_size (by repeat (first | (with_reducible first | exact HB.out | apply below_alloc | apply pw_below_drewN | apply below_drew1) | exact HB.out))) : w.heap.size ≤ gb256)); have n4_ := Aside0.mk ((by rw [hg]; exact (below_size (by repeat (first | (with_reducible first | exact HB.out | apply below_alloc | apply pw_below_drewN | apply below_drew1) | exact HB.out))) : w.heap.size ≤ gb256)); clear HO_8; clear HB; have HO_8 := n0_; have HB := n1_; have BK256 := n2_; have GW256 := n3_; have GE256 := n4_; clear n0_ n1_ n2_ n3_ n4_; clear hb hbox hg; have hcz59_0 : w58.cell? ⟨gb256, 0, none⟩ = some (.int .i64 0) := (blk_cell BK256.out 0).trans rfl; have hcz59_1 : w58.cell? ⟨gb256, 1, none⟩ = some (.int .i64 0) := (blk_cell BK256.out 1).trans rfl; have hcz59_2 : w58.cell? ⟨gb256, 2, none⟩ = some (.int .i64 0) := (blk_cell BK256.out 2).trans rfl; have hfz59_0 := blk_frozen BK256.out 0; have hfz59_1 := blk_frozen BK256.out 1; have hfz59_2 := blk_frozen BK256.out 2; have p257 : 0 ≤ (((rd_T67 l2 x79_2).f0) : Int) := of_decide_eq_true (by first | (with_reducible assumption) | assumption); have q257 : ((rd_T67 l2 x79_2).f0) < (x8_1.length : Int) := of_decide_eq_true (by first | (with_reducible assumption) | assumption); obtain ⟨ad257, e257, hx257_0⟩ := Kd.at_int (Kd.R_reads' HO_8.out).2.2 ((rd_T67 l2 x79_2).f0) p257 q257; obtain rfl : (⟨go7, 0, none⟩ : Addr) = ad257 := (by injection e257); (first | simp only [add_plain] at hx257_0 | simp only [add_at] at hx257_0 | simp only [Addr.add, Nat.zero_add] at hx257_0 | skip); have hn257_0 : (⟨go7, 0, none⟩ : Addr).block ≠ gb256 := Kd.own_blk (Kd.R_ne HO_8.out BK256.out (by decide)); have hn257_1 : (⟨go7, 0, none⟩ : Addr).block ≠ gb256 := Kd.own_blk (Kd.R_ne HO_8.out BK256.out (by decide)); have hn257_2 : (⟨go7, 0, none⟩ : Addr).block ≠ gb256 := Kd.own_blk (Kd.R_ne HO_8.out BK256.out (by decide)); replace hx257_0 := (cell_far (p := ⟨gb256, 0, none⟩) (by first | (rw [add_block]; exact hn257_0) | (show (Addr.add _ _).block ≠ _; rw [add_block]; exact hn257_0) | exact hn257_0) (.int .i64 ((rd_T67 l2 x79_2).f0))).trans hx257_0; replace hx257_0 := (cell_far (p := ⟨gb256, 1, none⟩) (by first | (rw [add_block]; exact hn257_1) | (show (Addr.add _ _).block ≠ _; rw [add_block]; exact hn257_1) | exact hn257_1) (.int .i64 ((rd_T67 l2 x79_2).f1))).trans hx257_0; replace hx257_0 := (cell_far (p := ⟨gb256, 2, none⟩) (by first | (rw [add_block]; exact hn257_2) | (show (Addr.add _ _).block ≠ _; rw [add_block]; exact hn257_2) | exact hn257_2) (.int .i64 ((rd_T67 l2 x79_2).f2))).trans hx257_0; (try have hy257_0 := fun (n_ : Nat) => (show (((((w58.drewN n_).setCell ⟨gb256, 0, none⟩ (.int .i64 ((rd_T67 l2 x79_2).f0))).setCell ⟨gb256, 1, none⟩ (.int .i64 ((rd_T67 l2 x79_2).f1))).setCell ⟨gb256, 2, none⟩ (.int .i64 ((rd_T67 l2 x79_2).f2)))).cell? _ = some _ from hx257_0)); clear hn257_0; clear hn257_1; clear hn257_2; replace p257 := eq_true p257; replace q257 := eq_true q257; have p258 : 0 ≤ (((rd_T67 l2 x79_2).f0) : Int) := of_decide_eq_true (by first | (with_reducible assumption) | assumption); have q258 : ((rd_T67 l2 x79_2).f0) < (x8_1.length : Int) := of_decide_eq_true (by first | (with_reducible assumption) | assumption); obtain ⟨ad258, e258, hx258_0⟩ := Kd.at_int (Kd.R_reads' HO_8.out).2.2 ((rd_T67 l2 x79_2).f0) p258 q258; obtain rfl : (⟨go7, 0, none⟩ : Addr) = ad258 := (by injection e258); (first | simp only [add_plain] at hx258_0 | simp only [add_at] at hx258_0 | simp only [Addr.add, Nat.zero_add] at hx258_0 | skip); have hn258_0 : (⟨go7, 0, none⟩ : Addr).block ≠ gb256 := Kd.own_blk (Kd.R_ne HO_8.out BK256.out (by decide)); have hn258_1 : (⟨go7, 0, none⟩ : Addr).block ≠ gb256 := Kd.own_blk (Kd.R_ne HO_8.out BK256.out (by decide)); have hn258_2 : (⟨go7, 0, none⟩ : Addr).block ≠ gb256 := Kd.own_blk (Kd.R_ne HO_8.out BK256.out (by decide)); replace hx258_0 := (cell_far (p := ⟨gb256, 0, none⟩) (by first | (rw [add_block]; exact hn258_0) | (show (Addr.add _ _).block ≠ _; rw [add_block]; exact hn258_0) | exact hn258_0) (.int .i64 ((rd_T67 l2 x79_2).f0))).trans hx258_0; replace hx258_0 := (cell_far (p := ⟨gb256, 1, none⟩) (by first | (rw [add_block]; exact hn258_1) | (show (Addr.add _ _).block ≠ _; rw [add_block]; exact hn258_1) | exact hn258_1) (.int .i64 ((rd_T67 l2 x79_2).f1))).trans hx258_0; replace hx258_0 := (cell_far (p := ⟨gb256, 2, none⟩) (by first | (rw [add_block]; exact hn258_2) | (show (Addr.add _ _).block ≠ _; rw [add_block]; exact hn258_2) | exact hn258_2) (.int .i64 ((rd_T67 l2 x79_2).f2))).trans hx258_0; (try have hy258_0 := fun (n_ : Nat) => (show (((((w58.drewN n_).setCell ⟨gb256, 0, none⟩ (.int .i64 ((rd_T67 l2 x79_2).f0))).setCell ⟨gb256, 1, none⟩ (.int .i64 ((rd_T67 l2 x79_2).f1))).setCell ⟨gb256, 2, none⟩ (.int .i64 ((rd_T67 l2 x79_2).f2)))).cell? _ = some _ from hx258_0)); clear hn258_0; clear hn258_1; clear hn258_2; replace p258 := eq_true p258; replace q258 := eq_true q258)))
                              go_ret2
                              exact ⟨_, by first | rfl | (simp [errW_none, errW_some] <;> rfl) | (simp [*, errW_none, errW_some] <;> rfl), by first | exact Kd.R_nil _ _ _ _ _ | exact Kd.N_nil _ _ _ _ _ | exact Kd.V_nil _ _ _ _ _ | exact Kd.Q_nil _ _ _ _ _ | exact Kd.S_nil _ _ _ _ _, by repeat (first | (with_reducible first | exact HB.out | apply below_alloc | apply pw_below_drewN | apply below_drew1 | refine below_set ?_ GE256.out) | exact HB.out)⟩
                            · rw [if_neg c57] at H
                              have c57b0 : decide (((rd_T67 l2 x79_2).f2) < (rd x8_1 ((rd_T67 l2 x79_2).f0))) = false := decide_eq_false c57
                              (try (have c57b0h := c57b0; simp only [hl8_1] at c57b0h))
                              clear c57
                              have H' := Aside0.mk H
                              clear H
                              have p255 : 0 ≤ (x79_2 : Int) := of_decide_eq_true (by first | (with_reducible assumption) | assumption)
                              have q255 : x79_2 < (l2.length : Int) := of_decide_eq_true (by first | (with_reducible assumption) | assumption)
                              obtain ⟨ad255, e255, hx255_0, hx255_1, hx255_2⟩ := at_T67 HR2.out x79_2 p255 q255
                              cases e255
                              replace hx255_0 := (HB.out.cell (World.block_lt_of_cell? w _ hx255_0)).trans hx255_0
                              replace hx255_1 := (HB.out.cell (World.block_lt_of_cell? w _ hx255_1)).trans hx255_1
                              replace hx255_2 := (HB.out.cell (World.block_lt_of_cell? w _ hx255_2)).trans hx255_2
                              replace p255 := eq_true p255
                              replace q255 := eq_true q255
                              go_wp2_with (first | ((with_reducible refine gate_dst (N := 12) rfl ?_); refine box_event ?hg (N := 12) ?hd (cs := #[.int .i64 0, .int .i64 0, .int .i64 0]) (t := 67) ?hr ?_; (case hd => rfl); (case hg => rfl); (case hr => first | (go_simp; done) | (go_simp; rfl)); intro gb256 hg w60 hbox hb; have n0_ := Aside0.mk (Kd.R_below (by (with_reducible repeat (first | apply Kd.R_alloc | apply Kd.R_drewN | apply Kd.R_drew)); exact HO_8.out) hb); have n1_ := Aside0.mk (below_step (by repeat (first | (with_reducible first | exact HB.out | apply below_alloc | apply pw_below_drewN | apply below_drew1) | exact HB.out)) hb); have n2_ := Aside0.mk (hbox); have n3_ := Aside0.mk ((by rw [hg]; exact (below_size (by repeat (first | (with_reducible first | exact HB.out | apply below_alloc | apply pw_below_drewN | apply below_drew1) | exact HB.out))) : w.heap.size ≤ gb256)); have n4_ := Aside0.mk ((by rw [hg]; exact (below_size (by repeat (first | (with_reducible first | exact HB.out | apply below_alloc | apply pw_below_drewN | apply below_drew1) | exact HB.out))) : w.heap.size ≤ gb256)); clear HO_8; clear HB; have HO_8 := n0_; have HB := n1_; have BK256 := n2_; have GW256 := n3_; have GE256 := n4_; clear n0_ n1_ n2_ n3_ n4_; clear hb hbox hg; have hcz61_0 : w60.cell? ⟨gb256, 0, none⟩ = some (.int .i64 0) := (blk_cell BK256.out 0).trans rfl; have hcz61_1 : w60.cell? ⟨gb256, 1, none⟩ = some (.int .i64 0) := (blk_cell BK256.out 1).trans rfl; have hcz61_2 : w60.cell? ⟨gb256, 2, none⟩ = some (.int .i64 0) := (blk_cell BK256.out 2).trans rfl; have hfz61_0 := blk_frozen BK256.out 0; have hfz61_1 := blk_frozen BK256.out 1; have hfz61_2 := blk_frozen BK256.out 2; have p257 : 0 ≤ (((rd_T67 l2 x79_2).f0) : Int) := of_decide_eq_true (by first | (with_reducible assumption) | assumption); have q257 : ((rd_T67 l2 x79_2).f0) < (x8_1.length : Int) := of_decide_eq_true (by first | (with_reducible assumption) | assumption); obtain ⟨ad257, e257, hx257_0⟩ := Kd.at_int (Kd.R_reads' HO_8.out).2.2 ((rd_T67 l2 x79_2).f0) p257 q257; obtain rfl : (⟨go7, 0, none⟩ : Addr) = ad257 := (by injection e257); (first | simp only [add_plain] at hx257_0 | simp only [add_at] at hx257_0 | simp only [Addr.add, Nat.zero_add] at hx257_0 | skip); have hn257_0 : (⟨go7, 0, none⟩ : Addr).block ≠ gb256 := Kd.own_blk (Kd.R_ne HO_8.out BK256.out (by decide)); have hn257_1 : (⟨go7, 0, none⟩ : Addr).block ≠ gb256 := Kd.own_blk (Kd.R_ne HO_8.out BK256.out (by decide)); have hn257_2 : (⟨go7, 0, none⟩ : Addr).block ≠ gb256 := Kd.own_blk (Kd.R_ne HO_8.out BK256.out (by decide)); replace hx257_0 := (cell_far (p := ⟨gb256, 0, none⟩) (by first | (rw [add_block]; exact hn257_0) | (show (Addr.add _ _).block ≠ _; rw [add_block]; exact hn257_0) | exact hn257_0) (.int .i64 ((rd_T67 l2 x79_2).f0))).trans hx257_0; replace hx257_0 := (cell_far (p := ⟨gb256, 1, none⟩) (by first | (rw [add_block]; exact hn257_1) | (show (Addr.add _ _).block ≠ _; rw [add_block]; exact hn257_1) | exact hn257_1) (.int .i64 ((rd_T67 l2 x79_2).f1))).trans hx257_0; replace hx257_0 := (cell_far (p := ⟨gb256, 2, none⟩) (by first | (rw [add_block]; exact hn257_2) | (show (Addr.add _ _).block ≠ _; rw [add_block]; exact hn257_2) | exact hn257_2) (.int .i64 ((rd_T67 l2 x79_2).f2))).trans hx257_0; (try have hy257_0 := fun (n_ : Nat) => (show (((((w60.drewN n_).setCell ⟨gb256, 0, none⟩ (.int .i64 ((rd_T67 l2 x79_2).f0))).setCell ⟨gb256, 1, none⟩ (.int .i64 ((rd_T67 l2 x79_2).f1))).setCell ⟨gb256, 2, none⟩ (.int .i64 ((rd_T67 l2 x79_2).f2)))).cell? _ = some _ from hx257_0)); clear hn257_0; clear hn257_1; clear hn257_2; replace p257 := eq_true p257; replace q257 := eq_true q257; have p258 : 0 ≤ (((rd_T67 l2 x79_2).f0) : Int) := of_decide_eq_true (by first | (with_reducible assumption) | assumption); have q258 : ((rd_T67 l2 x79_2).f0) < (x8_1.length : Int) := of_decide_eq_true (by first | (with_reducible assumption) | assumption); obtain ⟨ad258, e258, hx258_0⟩ := Kd.at_int (Kd.R_reads' HO_8.out).2.2 ((rd_T67 l2 x79_2).f0) p258 q258; obtain rfl : (⟨go7, 0, none⟩ : Addr) = ad258 := (by injection e258); (first | simp only [add_plain] at hx258_0 | simp only [add_at] at hx258_0 | simp only [Addr.add, Nat.zero_add] at hx258_0 | skip); have hn258_0 : (⟨go7, 0, none⟩ : Addr).block ≠ gb256 := Kd.own_blk (Kd.R_ne HO_8.out BK256.out (by decide)); have hn258_1 : (⟨go7, 0, none⟩ : Addr).block ≠ gb256 := Kd.own_blk (Kd.R_ne HO_8.out BK256.out (by decide)); have hn258_2 : (⟨go7, 0, none⟩ : Addr).block ≠ gb256 := Kd.own_blk (Kd.R_ne HO_8.out BK256.out (by decide)); replace hx258_0 := (cell_far (p := ⟨gb256, 0, none⟩) (by first | (rw [add_block]; exact hn258_0) | (show (Addr.add _ _).block ≠ _; rw [add_block]; exact hn258_0) | exact hn258_0) (.int .i64 ((rd_T67 l2 x79_2).f0))).trans hx258_0; replace hx258_0 := (cell_far (p := ⟨gb256, 1, none⟩) (by first | (rw [add_block]; exact hn258_1) | (show (Addr.add _ _).block ≠ _; rw [add_block]; exact hn258_1) | exact hn258_1) (.int .i64 ((rd_T67 l2 x79_2).f1))).trans hx258_0; replace hx258_0 := (cell_far (p := ⟨gb256, 2, none⟩) (by first | (rw [add_block]; exact hn258_2) | (show (Addr.add _ _).block ≠ _; rw [add_block]; exact hn258_2) | exact hn258_2) (.int .i64 ((rd_T67 l2 x79_2).f2))).trans hx258_0; (try have hy258_0 := fun (n_ : Nat) => (show (((((w60.drewN n_).setCell ⟨gb256, 0, none⟩ (.int .i64 ((rd_T67 l2 x79_2).f0))).setCell ⟨gb256, 1, none⟩ (.int .i64 ((rd_T67 l2 x79_2).f1))).setCell ⟨gb256, 2, none⟩ (.int .i64 ((rd_T67 l2 x79_2).f2)))).cell? _ = some _ from hx258_0)); clear hn258_0; clear hn258_1; clear hn258_2; replace p258 := eq_true p258; replace q258 := eq_true q258))
                              repeat (go_quiet (first | ((with_reducible refine gate_dst (N := 12) rfl ?_); refine box_event ?hg (N := 12) ?hd (cs := #[.int .i64 0, .int .i64 0, .int .i64 0]) (t := 67) ?hr ?_; (case hd => rfl); (case hg => rfl); (case hr => first | (go_simp; done) | (go_simp; rfl)); intro gb256 hg w60 hbox hb; have n0_ := Aside0.mk (Kd.R_below (by (with_reducible repeat (first | apply Kd.R_alloc | apply Kd.R_drewN | apply Kd.R_drew)); exact HO_8.out) hb); have n1_ := Aside0.mk (below_step (by repeat (first | (with_reducible first | exact HB.out | apply below_alloc | apply pw_below_drewN | apply below_drew1) | exact HB.out)) hb); have n2_ := Aside0.mk (hbox); have n3_ := Aside0.mk ((by rw [hg]; exact (below_size (by repeat (first | (with_reducible first | exact HB.out | apply below_alloc | apply pw_below_drewN | apply below_drew1) | exact HB.out))) : w.heap.size ≤ gb256)); have n4_ := Aside0.mk ((by rw [hg]; exact (below_size (by repeat (first | (with_reducible first | exact HB.out | apply below_alloc | apply pw_below_drewN | apply below_drew1) | exact HB.out))) : w.heap.size ≤ gb256)); clear HO_8; clear HB; have HO_8 := n0_; have HB := n1_; have BK256 := n2_; have GW256 := n3_; have GE256 := n4_; clear n0_ n1_ n2_ n3_ n4_; clear hb hbox hg; have hcz61_0 : w60.cell? ⟨gb256, 0, none⟩ = some (.int .i64 0) := (blk_cell BK256.out 0).trans rfl; have hcz61_1 : w60.cell? ⟨gb256, 1, none⟩ = some (.int .i64 0) := (blk_cell BK256.out 1).trans rfl; have hcz61_2 : w60.cell? ⟨gb256, 2, none⟩ = some (.int .i64 0) := (blk_cell BK256.out 2).trans rfl; have hfz61_0 := blk_frozen BK256.out 0; have hfz61_1 := blk_frozen BK256.out 1; have hfz61_2 := blk_frozen BK256.out 2; have p257 : 0 ≤ (((rd_T67 l2 x79_2).f0) : Int) := of_decide_eq_true (by first | (with_reducible assumption) | assumption); have q257 : ((rd_T67 l2 x79_2).f0) < (x8_1.length : Int) := of_decide_eq_true (by first | (with_reducible assumption) | assumption); obtain ⟨ad257, e257, hx257_0⟩ := Kd.at_int (Kd.R_reads' HO_8.out).2.2 ((rd_T67 l2 x79_2).f0) p257 q257; obtain rfl : (⟨go7, 0, none⟩ : Addr) = ad257 := (by injection e257); (first | simp only [add_plain] at hx257_0 | simp only [add_at] at hx257_0 | simp only [Addr.add, Nat.zero_add] at hx257_0 | skip); have hn257_0 : (⟨go7, 0, none⟩ : Addr).block ≠ gb256 := Kd.own_blk (Kd.R_ne HO_8.out BK256.out (by decide)); have hn257_1 : (⟨go7, 0, none⟩ : Addr).block ≠ gb256 := Kd.own_blk (Kd.R_ne HO_8.out BK256.out (by decide)); have hn257_2 : (⟨go7, 0, none⟩ : Addr).block ≠ gb256 := Kd.own_blk (Kd.R_ne HO_8.out BK256.out (by decide)); replace hx257_0 := (cell_far (p := ⟨gb256, 0, none⟩) (by first | (rw [add_block]; exact hn257_0) | (show (Addr.add _ _).block ≠ _; rw [add_block]; exact hn257_0) | exact hn257_0) (.int .i64 ((rd_T67 l2 x79_2).f0))).trans hx257_0; replace hx257_0 := (cell_far (p := ⟨gb256, 1, none⟩) (by first | (rw [add_block]; exact hn257_1) | (show (Addr.add _ _).block ≠ _; rw [add_block]; exact hn257_1) | exact hn257_1) (.int .i64 ((rd_T67 l2 x79_2).f1))).trans hx257_0; replace hx257_0 := (cell_far (p := ⟨gb256, 2, none⟩) (by first | (rw [add_block]; exact hn257_2) | (show (Addr.add _ _).block ≠ _; rw [add_block]; exact hn257_2) | exact hn257_2) (.int .i64 ((rd_T67 l2 x79_2).f2))).trans hx257_0; (try have hy257_0 := fun (n_ : Nat) => (show (((((w60.drewN n_).setCell ⟨gb256, 0, none⟩ (.int .i64 ((rd_T67 l2 x79_2).f0))).setCell ⟨gb256, 1, none⟩ (.int .i64 ((rd_T67 l2 x79_2).f1))).setCell ⟨gb256, 2, none⟩ (.int .i64 ((rd_T67 l2 x79_2).f2)))).cell? _ = some _ from hx257_0)); clear hn257_0; clear hn257_1; clear hn257_2; replace p257 := eq_true p257; replace q257 := eq_true q257; have p258 : 0 ≤ (((rd_T67 l2 x79_2).f0) : Int) := of_decide_eq_true (by first | (with_reducible assumption) | assumption); have q258 : ((rd_T67 l2 x79_2).f0) < (x8_1.length : Int) := of_decide_eq_true (by first | (with_reducible assumption) | assumption); obtain ⟨ad258, e258, hx258_0⟩ := Kd.at_int (Kd.R_reads' HO_8.out).2.2 ((rd_T67 l2 x79_2).f0) p258 q258; obtain rfl : (⟨go7, 0, none⟩ : Addr) = ad258 := (by injection e258); (first | simp only [add_plain] at hx258_0 | simp only [add_at] at hx258_0 | simp only [Addr.add, Nat.zero_add] at hx258_0 | skip); have hn258_0 : (⟨go7, 0, none⟩ : Addr).block ≠ gb256 := Kd.own_blk (Kd.R_ne HO_8.out BK256.out (by decide)); have hn258_1 : (⟨go7, 0, none⟩ : Addr).block ≠ gb256 := Kd.own_blk (Kd.R_ne HO_8.out BK256.out (by decide)); have hn258_2 : (⟨go7, 0, none⟩ : Addr).block ≠ gb256 := Kd.own_blk (Kd.R_ne HO_8.out BK256.out (by decide)); replace hx258_0 := (cell_far (p := ⟨gb256, 0, none⟩) (by first | (rw [add_block]; exact hn258_0) | (show (Addr.add _ _).block ≠ _; rw [add_block]; exact hn258_0) | exact hn258_0) (.int .i64 ((rd_T67 l2 x79_2).f0))).trans hx258_0; replace hx258_0 := (cell_far (p := ⟨gb256, 1, none⟩) (by first | (rw [add_block]; exact hn258_1) | (show (Addr.add _ _).block ≠ _; rw [add_block]; exact hn258_1) | exact hn258_1) (.int .i64 ((rd_T67 l2 x79_2).f1))).trans hx258_0; replace hx258_0 := (cell_far (p := ⟨gb256, 2, none⟩) (by first | (rw [add_block]; exact hn258_2) | (show (Addr.add _ _).block ≠ _; rw [add_block]; exact hn258_2) | exact hn258_2) (.int .i64 ((rd_T67 l2 x79_2).f2))).trans hx258_0; (try have hy258_0 := fun (n_ : Nat) => (show (((((w60.drewN n_).setCell ⟨gb256, 0, none⟩ (.int .i64 ((rd_T67 l2 x79_2).f0))).setCell ⟨gb256, 1, none⟩ (.int .i64 ((rd_T67 l2 x79_2).f1))).setCell ⟨gb256, 2, none⟩ (.int .i64 ((rd_T67 l2 x79_2).f2)))).cell? _ = some _ from hx258_0)); clear hn258_0; clear hn258_1; clear hn258_2; replace p258 := eq_true p258; replace q258 := eq_true q258)); try go_wp2_with (first | ((with_reducible refine gate_dst (N := 12) rfl ?_); refine box_event ?hg (N := 12) ?hd (cs := #[.int .i64 0, .int .i64 0, .int .i64 0]) (t := 67) ?hr ?_; (case hd => rfl); (case hg => rfl); (case hr => first | (go_simp; done) | (go_simp; rfl)); intro gb256 hg w60 hbox hb; have n0_ := Aside0.mk (Kd.R_below (by (with_reducible repeat (first | apply Kd.R_alloc | apply Kd.R_drewN | apply Kd.R_drew)); exact HO_8.out) hb); have n1_ := Aside0.mk (below_step (by repeat (first | (with_reducible first | exact HB.out | apply below_alloc | apply pw_below_drewN | apply below_drew1) | exact HB.out)) hb); have n2_ := Aside0.mk (hbox); have n3_ := Aside0.mk ((by rw [hg]; exact (below_size (by repeat (first | (with_reducible first | exact HB.out | apply below_alloc | apply pw_below_drewN | apply below_drew1) | exact HB.out))) : w.heap.size ≤ gb256)); have n4_ := Aside0.mk ((by rw [hg]; exact (below_size (by repeat (first | (with_reducible first | exact HB.out | apply below_alloc | apply pw_below_drewN | apply below_drew1) | exact HB.out))) : w.heap.size ≤ gb256)); clear HO_8; clear HB; have HO_8 := n0_; have HB := n1_; have BK256 := n2_; have GW256 := n3_; have GE256 := n4_; clear n0_ n1_ n2_ n3_ n4_; clear hb hbox hg; have hcz61_0 : w60.cell? ⟨gb256, 0, none⟩ = some (.int .i64 0) := (blk_cell BK256.out 0).trans rfl; have hcz61_1 : w60.cell? ⟨gb256, 1, none⟩ = some (.int .i64 0) := (blk_cell BK256.out 1).trans rfl; have hcz61_2 : w60.cell? ⟨gb256, 2, none⟩ = some (.int .i64 0) := (blk_cell BK256.out 2).trans rfl; have hfz61_0 := blk_frozen BK256.out 0; have hfz61_1 := blk_frozen BK256.out 1; have hfz61_2 := blk_frozen BK256.out 2; have p257 : 0 ≤ (((rd_T67 l2 x79_2).f0) : Int) := of_decide_eq_true (by first | (with_reducible assumption) | assumption); have q257 : ((rd_T67 l2 x79_2).f0) < (x8_1.length : Int) := of_decide_eq_true (by first | (with_reducible assumption) | assumption); obtain ⟨ad257, e257, hx257_0⟩ := Kd.at_int (Kd.R_reads' HO_8.out).2.2 ((rd_T67 l2 x79_2).f0) p257 q257; obtain rfl : (⟨go7, 0, none⟩ : Addr) = ad257 := (by injection e257); (first | simp only [add_plain] at hx257_0 | simp only [add_at] at hx257_0 | simp only [Addr.add, Nat.zero_add] at hx257_0 | skip); have hn257_0 : (⟨go7, 0, none⟩ : Addr).block ≠ gb256 := Kd.own_blk (Kd.R_ne HO_8.out BK256.out (by decide)); have hn257_1 : (⟨go7, 0, none⟩ : Addr).block ≠ gb256 := Kd.own_blk (Kd.R_ne HO_8.out BK256.out (by decide)); have hn257_2 : (⟨go7, 0, none⟩ : Addr).block ≠ gb256 := Kd.own_blk (Kd.R_ne HO_8.out BK256.out (by decide)); replace hx257_0 := (cell_far (p := ⟨gb256, 0, none⟩) (by first | (rw [add_block]; exact hn257_0) | (show (Addr.add _ _).block ≠ _; rw [add_block]; exact hn257_0) | exact hn257_0) (.int .i64 ((rd_T67 l2 x79_2).f0))).trans hx257_0; replace hx257_0 := (cell_far (p := ⟨gb256, 1, none⟩) (by first | (rw [add_block]; exact hn257_1) | (show (Addr.add _ _).block ≠ _; rw [add_block]; exact hn257_1) | exact hn257_1) (.int .i64 ((rd_T67 l2 x79_2).f1))).trans hx257_0; replace hx257_0 := (cell_far (p := ⟨gb256, 2, none⟩) (by first | (rw [add_block]; exact hn257_2) | (show (Addr.add _ _).block ≠ _; rw [add_block]; exact hn257_2) | exact hn257_2) (.int .i64 ((rd_T67 l2 x79_2).f2))).trans hx257_0; (try have hy257_0 := fun (n_ : Nat) => (show (((((w60.drewN n_).setCell ⟨gb256, 0, none⟩ (.int .i64 ((rd_T67 l2 x79_2).f0))).setCell ⟨gb256, 1, none⟩ (.int .i64 ((rd_T67 l2 x79_2).f1))).setCell ⟨gb256, 2, none⟩ (.int .i64 ((rd_T67 l2 x79_2).f2)))).cell? _ = some _ from hx257_0)); clear hn257_0; clear hn257_1; clear hn257_2; replace p257 := eq_true p257; replace q257 := eq_true q257; have p258 : 0 ≤ (((rd_T67 l2 x79_2).f0) : Int) := of_decide_eq_true (by first | (with_reducible assumption) | assumption); have q258 : ((rd_T67 l2 x79_2).f0) < (x8_1.length : Int) := of_decide_eq_true (by first | (with_reducible assumption) | assumption); obtain ⟨ad258, e258, hx258_0⟩ := Kd.at_int (Kd.R_reads' HO_8.out).2.2 ((rd_T67 l2 x79_2).f0) p258 q258; obtain rfl : (⟨go7, 0, none⟩ : Addr) = ad258 := (by injection e258); (first | simp only [add_plain] at hx258_0 | simp only [add_at] at hx258_0 | simp only [Addr.add, Nat.zero_add] at hx258_0 | skip); have hn258_0 : (⟨go7, 0, none⟩ : Addr).block ≠ gb256 := Kd.own_blk (Kd.R_ne HO_8.out BK256.out (by decide)); have hn258_1 : (⟨go7, 0, none⟩ : Addr).block ≠ gb256 := Kd.own_blk (Kd.R_ne HO_8.out BK256.out (by decide)); have hn258_2 : (⟨go7, 0, none⟩ : Addr).block ≠ gb256 := Kd.own_blk (Kd.R_ne HO_8.out BK256.out (by decide)); replace hx258_0 := (cell_far (p := ⟨gb256, 0, none⟩) (by first | (rw [add_block]; exact hn258_0) | (show (Addr.add _ _).block ≠ _; rw [add_block]; exact hn258_0) | exact hn258_0) (.int .i64 ((rd_T67 l2 x79_2).f0))).trans hx258_0; replace hx258_0 := (cell_far (p := ⟨gb256, 1, none⟩) (by first | (rw [add_block]; exact hn258_1) | (show (Addr.add _ _).block ≠ _; rw [add_block]; exact hn258_1) | exact hn258_1) (.int .i64 ((rd_T67 l2 x79_2).f1))).trans hx258_0; replace hx258_0 := (cell_far (p := ⟨gb256, 2, none⟩) (by first | (rw [add_block]; exact hn258_2) | (show (Addr.add _ _).block ≠ _; rw [add_block]; exact hn258_2) | exact hn258_2) (.int .i64 ((rd_T67 l2 x79_2).f2))).trans hx258_0; (try have hy258_0 := fun (n_ : Nat) => (show (((((w60.drewN n_).setCell ⟨gb256, 0, none⟩ (.int .i64 ((rd_T67 l2 x79_2).f0))).setCell ⟨gb256, 1, none⟩ (.int .i64 ((rd_T67 l2 x79_2).f1))).setCell ⟨gb256, 2, none⟩ (.int .i64 ((rd_T67 l2 x79_2).f2)))).cell? _ = some _ from hx258_0)); clear hn258_0; clear hn258_1; clear hn258_2; replace p258 := eq_true p258; replace q258 := eq_true q258)))
                              go_roundg k2
                              case measure => have := HK1.out; have := HK2.out; omega
                              case rel => exact ⟨(wrap64 (x79_2 + 1)), (by first | rfl | (simp; done) | (simp [*]; done)), H', ⟨by have := HK1.out; have := HK2.out; omega⟩, ⟨by (try simp only [hl8_1]); (with_reducible repeat (first | apply Kd.R_alloc | apply Kd.R_drewN | apply Kd.R_drew)); exact Kd.R_mono (Kd.R_far (p := ⟨gb256, 2, none⟩) (Kd.R_far (p := ⟨gb256, 1, none⟩) (Kd.R_far (p := ⟨gb256, 0, none⟩) (Kd.R_types HO_8.out BK256.out (by decide)) (fun _ hk => hk.2) (.int .i64 ((rd_T67 l2 x79_2).f0))) (fun _ hk => hk.2) (.int .i64 ((rd_T67 l2 x79_2).f1))) (fun _ hk => hk.2) (.int .i64 ((rd_T67 l2 x79_2).f2))) (fun _ hk => trivial)⟩, ⟨by repeat (first | (with_reducible first | exact HB.out | apply below_alloc | apply pw_below_drewN | apply below_drew1 | refine below_set ?_ GE256.out) | exact HB.out)⟩⟩
                        · rw [if_neg c53] at H
                          exact absurd H (by simp)
                      · rw [if_neg c52] at H
                        exact absurd H (by simp)
                    · rw [if_neg c51] at H
                      exact absurd H (by simp)
                  · rw [if_neg c50] at H
                    exact absurd H (by simp)
                · rw [if_neg c49] at H
                  have c49b0 : decide (x79_2 < (l2.length : Int)) = false := decide_eq_false c49
                  (try (have c49b0h := c49b0; simp only [hl8_1] at c49b0h))
                  clear c49
                  simp only [Option.some.injEq, Prod.mk.injEq] at H
                  obtain ⟨rfl, rfl⟩ := H
                  go_wp2
                  repeat (go_quiet (fail); try go_wp2)
                  go_ret2
                  exact ⟨_, by first | rfl | (simp [errW_none, errW_some] <;> rfl) | (simp [*, errW_none, errW_some] <;> rfl), by (with_reducible repeat (first | apply Kd.R_alloc | apply Kd.R_drewN | apply Kd.R_drew)); exact HO_8.out, by repeat (first | (with_reducible first | exact HB.out | apply below_alloc | apply pw_below_drewN | apply below_drew1) | exact HB.out)⟩
    · rw [if_neg c6] at H
      exact absurd H (by simp)

/-! ### impl_AreSends: function 96 -/
def impl_AreSends.f (k : Nat) (a0 : Int) (a1 : Int) (l2 : List (S67)) : Option (Bool × Bool) := (impl_areDelayed.f a0 a1).bind fun t259 => (if t259 = true then ((impl_arrivals.f k a0 a1 l2).bind fun bt260 => (some (bt260.2, true))) else (some (false, false)))
theorem impl_AreSends.mono : ∀ a0 a1 a2 k, LeO (impl_AreSends.f k a0 a1 a2) (impl_AreSends.f (k + 1) a0 a1 a2) := by
  intro a0 a1 a2 k
  unfold impl_AreSends.f
  repeat' first
      | (with_reducible exact impl_arrivals.mono _ _ _ _)
      | (with_reducible exact LeO.refl _)
      | (with_reducible exact LeO.none _)
      | (with_reducible refine LeO.ite ?_ ?_)
      | (with_reducible refine LeO.bind ?_ (fun _ => ?_))
      | exact impl_arrivals.mono _ _ _ _
      | exact LeO.none _
      | refine LeO.ite ?_ ?_
      | refine LeO.bind ?_ (fun _ => ?_)
set_option maxHeartbeats 8000000 in
set_option maxRecDepth 100000 in
theorem impl_AreSends.calls (k : Nat) (a0 : Int) (a1 : Int) (A2 : Option Addr) (c2 : Nat) (l2 : List (S67)) (r1 : Bool) (r2 : Bool) (w : World) (hr2 : Kd.C k67 w A2 l2.length l2) (hc2 : l2.length ≤ c2) (h : impl_AreSends.f k a0 a1 l2 = some (r1, r2)) :
    Calls Try.prog 96 #[.int .i64 a0, .int .i64 a1, .slice A2 l2.length c2] w fun e w' => e = .returned (.tuple #[.bool r1, .bool r2]) ∧ Below w.heap.size w w' := by
  have HR2 := Aside0.mk hr2
  have HC2 := Aside0.mk hc2
  clear hr2 hc2
  have HB := Aside0.mk (Below.refl w.heap.size w)
  have H : ((impl_areDelayed.f a0 a1).bind fun t259 => (if t259 = true then ((impl_arrivals.f k a0 a1 l2).bind fun bt260 => (some (bt260.2, true))) else (some (false, false)))) = some (r1, r2) := h
  clear h
  replace H := Option.bind_eq_some_iff.mp H
  obtain ⟨t259, A40, H⟩ := H
  replace H : (if t259 = true then ((impl_arrivals.f k a0 a1 l2).bind fun bt260 => (some (bt260.2, true))) else (some (false, false))) = some (r1, r2) := H
  have A4 := Aside0.mk A40
  clear A40
  by_cases c5 : t259 = true
  · subst c5
    have H1 : ((impl_arrivals.f k a0 a1 l2).bind fun bt260 => (some (bt260.2, true))) = some (r1, r2) := by rw [if_pos rfl] at H; exact H
    clear H
    have H := H1
    clear H1
    replace H := Option.bind_eq_some_iff.mp H
    obtain ⟨⟨t260, t261⟩, A60, H⟩ := H
    replace H : (some (t261, true)) = some (r1, r2) := H
    have A6 := Aside0.mk A60
    clear A60
    simp only [Option.some.injEq, Prod.mk.injEq] at H
    obtain ⟨rfl, rfl⟩ := H
    go_enter Try.func96, Try.ntmps96
    go_wp2_with (first | ((with_reducible refine gate_callee (f := 119) rfl ?_); refine goesL_ (some 12) rfl rfl Try.func119 (by kernel_rfl) rfl #[.int .i64 a0, .int .i64 a1] rfl (by (try simp only [List.map_toArray, List.map_cons, List.map_nil]); first | done | rfl | (simp only [List.length_drop, List.length_take]; rfl) | (simp; done) | (refine congrArg Value.bool ?_; simp; done) | (refine congrArg (fun z_ => #[Value.bool z_]) ?_; simp; done)) ?_; (with_reducible refine (impl_areDelayed.calls a0 a1 true _ A4.out).mono ?_); rintro e w' ⟨rfl, ⟨nd, rfl⟩⟩; refine ⟨_, rfl, ?_⟩) | ((with_reducible refine gate_callee (f := 120) rfl ?_); refine goesL_ (some 18) rfl rfl Try.func120 (by kernel_rfl) rfl #[.int .i64 a0, .int .i64 a1, .slice A2 l2.length c2] rfl (by (try simp only [List.map_toArray, List.map_cons, List.map_nil]); first | done | rfl | (simp only [List.length_drop, List.length_take]; rfl) | (simp; done) | (refine congrArg Value.bool ?_; simp; done) | (refine congrArg (fun z_ => #[Value.bool z_]) ?_; simp; done)) ?_; (with_reducible refine (impl_arrivals.calls k a0 a1 _ _ l2 t260 t261 _ ?side1 ?side2 A6.out).mono ?_); (case side1 => repeat (first | exact HR2.out | (with_reducible refine Kd.C_alloc ?_ _) | (with_reducible refine Kd.C_drewN ?_ _) | (with_reducible refine Kd.C_drew ?_))); (case side2 => exact HC2.out); rintro e w7 ⟨v262, rfl, ho0, hb⟩; refine ⟨_, rfl, ?_⟩; have n0_ := Aside0.mk (Kd.R_lower ho0 (below_size (by repeat (first | (with_reducible first | exact HB.out | apply below_alloc | apply pw_below_drewN | apply below_drew1) | exact HB.out)))); have n1_ := Aside0.mk (below_step (by repeat (first | (with_reducible first | exact HB.out | apply below_alloc | apply pw_below_drewN | apply below_drew1) | exact HB.out)) hb); clear HB; have HO263 := n0_; have HB := n1_; clear n0_ n1_; (try clear hb); (try clear hb2); (try clear hk); (try clear hi); (try clear ho0)))
    go_ret2
    exact ⟨by first | rfl | (simp [errW_none, errW_some] <;> rfl) | (simp [*, errW_none, errW_some] <;> rfl), by repeat (first | (with_reducible first | exact HB.out | apply below_alloc | apply pw_below_drewN | apply below_drew1) | exact HB.out)⟩
  · replace c5 := Bool.eq_false_iff.mpr c5
    subst c5
    have H1 : (some (false, false)) = some (r1, r2) := by rw [if_neg (show ¬ (false = true) by decide)] at H; exact H
    clear H
    have H := H1
    clear H1
    simp only [Option.some.injEq, Prod.mk.injEq] at H
    obtain ⟨rfl, rfl⟩ := H
    go_enter Try.func96, Try.ntmps96
    go_wp2_with (first | ((with_reducible refine gate_callee (f := 119) rfl ?_); refine goesL_ (some 12) rfl rfl Try.func119 (by kernel_rfl) rfl #[.int .i64 a0, .int .i64 a1] rfl (by (try simp only [List.map_toArray, List.map_cons, List.map_nil]); first | done | rfl | (simp only [List.length_drop, List.length_take]; rfl) | (simp; done) | (refine congrArg Value.bool ?_; simp; done) | (refine congrArg (fun z_ => #[Value.bool z_]) ?_; simp; done)) ?_; (with_reducible refine (impl_areDelayed.calls a0 a1 false _ A4.out).mono ?_); rintro e w' ⟨rfl, ⟨nd, rfl⟩⟩; refine ⟨_, rfl, ?_⟩))
    go_ret2
    exact ⟨by first | rfl | (simp [errW_none, errW_some] <;> rfl) | (simp [*, errW_none, errW_some] <;> rfl), by repeat (first | (with_reducible first | exact HB.out | apply below_alloc | apply pw_below_drewN | apply below_drew1) | exact HB.out)⟩

/-! ### impl_areSent: function 56 -/
def impl_areSent.f (k : Nat) (a0 : Int) (a1 : Int) (l2 : List (S67)) : Option (Bool) := (impl_AreSends.f k a0 a1 l2).bind fun bt264 => (some bt264.1)
theorem impl_areSent.mono : ∀ a0 a1 a2 k, LeO (impl_areSent.f k a0 a1 a2) (impl_areSent.f (k + 1) a0 a1 a2) := by
  intro a0 a1 a2 k
  unfold impl_areSent.f
  repeat' first
      | (with_reducible exact impl_AreSends.mono _ _ _ _)
      | (with_reducible exact LeO.refl _)
      | (with_reducible exact LeO.none _)
      | (with_reducible refine LeO.ite ?_ ?_)
      | (with_reducible refine LeO.bind ?_ (fun _ => ?_))
      | exact impl_AreSends.mono _ _ _ _
      | exact LeO.none _
      | refine LeO.ite ?_ ?_
      | refine LeO.bind ?_ (fun _ => ?_)
set_option maxHeartbeats 8000000 in
set_option maxRecDepth 100000 in
theorem impl_areSent.calls (k : Nat) (a0 : Int) (a1 : Int) (A2 : Option Addr) (c2 : Nat) (l2 : List (S67)) (r : Bool) (w : World) (hr2 : Kd.C k67 w A2 l2.length l2) (hc2 : l2.length ≤ c2) (h : impl_areSent.f k a0 a1 l2 = some r) :
    Calls Try.prog 56 #[.int .i64 a0, .int .i64 a1, .slice A2 l2.length c2] w fun e w' => e = .returned (.bool r) ∧ Below w.heap.size w w' := by
  have HR2 := Aside0.mk hr2
  have HC2 := Aside0.mk hc2
  clear hr2 hc2
  have HB := Aside0.mk (Below.refl w.heap.size w)
  have H : ((impl_AreSends.f k a0 a1 l2).bind fun bt264 => (some bt264.1)) = some r := h
  clear h
  replace H := Option.bind_eq_some_iff.mp H
  obtain ⟨⟨t264, t265⟩, A40, H⟩ := H
  replace H : (some t264) = some r := H
  have A4 := Aside0.mk A40
  clear A40
  obtain rfl := Option.some.inj H
  go_enter Try.func56, Try.ntmps56
  go_wp2_with (first | ((with_reducible refine gate_callee (f := 96) rfl ?_); refine goesL_ (some 13) rfl rfl Try.func96 (by kernel_rfl) rfl #[.int .i64 a0, .int .i64 a1, .slice A2 l2.length c2] rfl (by (try simp only [List.map_toArray, List.map_cons, List.map_nil]); first | done | rfl | (simp only [List.length_drop, List.length_take]; rfl) | (simp; done) | (refine congrArg Value.bool ?_; simp; done) | (refine congrArg (fun z_ => #[Value.bool z_]) ?_; simp; done)) ?_; (with_reducible refine (impl_AreSends.calls k a0 a1 _ _ l2 t264 t265 _ ?side1 ?side2 A4.out).mono ?_); (case side1 => repeat (first | exact HR2.out | (with_reducible refine Kd.C_alloc ?_ _) | (with_reducible refine Kd.C_drewN ?_ _) | (with_reducible refine Kd.C_drew ?_))); (case side2 => exact HC2.out); rintro e w5 ⟨rfl, hb⟩; refine ⟨_, rfl, ?_⟩; have n0_ := Aside0.mk (below_step (by repeat (first | (with_reducible first | exact HB.out | apply below_alloc | apply pw_below_drewN | apply below_drew1) | exact HB.out)) hb); clear HB; have HB := n0_; clear n0_; (try clear hb); (try clear hb2); (try clear hk); (try clear hi)))
  go_ret
  exact ⟨by first | rfl | (simp [errW_none, errW_some] <;> rfl) | (simp [*, errW_none, errW_some] <;> rfl), by repeat (first | (with_reducible first | exact HB.out | apply below_alloc | apply pw_below_drewN | apply below_drew1) | exact HB.out)⟩

end Go.Proofs.Ytelhcooeafhgoaa.PFnExactSentBy
