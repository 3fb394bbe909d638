-- Written by a program of this claim, over the kit's print: the functions that a law reaches, their plain forms and the walks.
import Derived.Test.YtbmhgmnlkeebcabPFnExactTellsUpTox0
import Derived.Test.YtbmhgmnlkeebcabPFnExactTellsUpTox1
namespace Go.Proofs.Ytbmhgmnlkeebcab.PFnExactTellsUpTo
open Go.RowKit Go.Proofs.YtbmhgmnlkeebcabW.PrintWords Go.Proofs.YtbmhgmnlkeebcabW.PrintLast Go.Proofs.YtbmhgmnlkeebcabW.PrintMore
attribute [local go_sem] max2_int min2_int max_two min_two max_three min_three max_four min_four   -- for this text's walks alone
set_option linter.unusedVariables false
set_option linter.unusedSimpArgs false

/-! ### spec_wiLists: function 74 -/
mutual
def spec_wiLists.j0 : Nat → Int → Int → List Int → Int → Option ((List (List Int)))
  | 0, _, _, _, _ => none
  | k + 1, x0, x1, x2, x7 => spec_wiLists.l0 k x0 x1 x2 ([] : List (List Int)) x7
def spec_wiLists.l0 : Nat → Int → Int → List Int → List (List Int) → Int → Option ((List (List Int)))
  | 0, _, _, _, _, _ => none
  | k + 1, x0, x1, x2, x8, x9 => if x9 < x0 then ((spec_l1Own.f x2).bind fun t120 => (if t120.length < 17592186044416 then ((spec_wiLists.f k x0 (wrap64 (x1 - 1)) (t120 ++ [x9])).bind fun t126 => (if x8.length + t126.length < 5864062014805 then (spec_wiLists.l0 k x0 x1 x2 (x8 ++ t126) (wrap64 (x9 + 1))) else (none))) else (none))) else (some x8)
def spec_wiLists.f : Nat → Int → Int → List Int → Option ((List (List Int)))
  | 0, _, _, _ => none
  | k + 1, a0, a1, l2 => if a1 = 0 then (some (([l2] : List (List Int)))) else (if (l2.length : Int) > 0 then (if 0 ≤ (wrap64 ((l2.length : Int) - 1)) then (if (wrap64 ((l2.length : Int) - 1)) < (l2.length : Int) then (spec_wiLists.j0 k a0 a1 l2 (wrap64 ((rd l2 (wrap64 ((l2.length : Int) - 1))) + 1))) else (none)) else (none)) else (spec_wiLists.j0 k a0 a1 l2 0))
end
theorem spec_wiLists.mono_l : ∀ k, (∀ y0 y1 y2, LeO (spec_wiLists.f k y0 y1 y2) (spec_wiLists.f (k + 1) y0 y1 y2)) ∧ (∀ y0 y1 y2 y3, LeO (spec_wiLists.j0 k y0 y1 y2 y3) (spec_wiLists.j0 (k + 1) y0 y1 y2 y3)) ∧ (∀ y0 y1 y2 y3 y4, LeO (spec_wiLists.l0 k y0 y1 y2 y3 y4) (spec_wiLists.l0 (k + 1) y0 y1 y2 y3 y4))
  | 0 => ⟨fun _ _ _ r h => by simp [spec_wiLists.f] at h, fun _ _ _ _ r h => by simp [spec_wiLists.j0] at h, fun _ _ _ _ _ r h => by simp [spec_wiLists.l0] at h⟩
  | k + 1 => by
    obtain ⟨ih0, ih1, ih2⟩ := spec_wiLists.mono_l k
    refine ⟨?_, ?_, ?_⟩
    · intro y0 y1 y2
      unfold spec_wiLists.f
      repeat' first
      | (with_reducible exact ih0 _ _ _)
      | (with_reducible exact ih1 _ _ _ _)
      | (with_reducible exact ih2 _ _ _ _ _)
      | (with_reducible exact LeO.refl _)
      | (with_reducible exact LeO.none _)
      | (with_reducible refine LeO.ite ?_ ?_)
      | (with_reducible refine LeO.bind ?_ (fun _ => ?_))
      | exact ih0 _ _ _
      | exact ih1 _ _ _ _
      | exact ih2 _ _ _ _ _
      | exact LeO.none _
      | refine LeO.ite ?_ ?_
      | refine LeO.bind ?_ (fun _ => ?_)
    · intro y0 y1 y2 y3
      unfold spec_wiLists.j0
      repeat' first
      | (with_reducible exact ih0 _ _ _)
      | (with_reducible exact ih1 _ _ _ _)
      | (with_reducible exact ih2 _ _ _ _ _)
      | (with_reducible exact LeO.refl _)
      | (with_reducible exact LeO.none _)
      | (with_reducible refine LeO.ite ?_ ?_)
      | (with_reducible refine LeO.bind ?_ (fun _ => ?_))
      | exact ih0 _ _ _
      | exact ih1 _ _ _ _
      | exact ih2 _ _ _ _ _
      | exact LeO.none _
      | refine LeO.ite ?_ ?_
      | refine LeO.bind ?_ (fun _ => ?_)
    · intro y0 y1 y2 y3 y4
      unfold spec_wiLists.l0
      repeat' first
      | (with_reducible exact ih0 _ _ _)
      | (with_reducible exact ih1 _ _ _ _)
      | (with_reducible exact ih2 _ _ _ _ _)
      | (with_reducible exact LeO.refl _)
      | (with_reducible exact LeO.none _)
      | (with_reducible refine LeO.ite ?_ ?_)
      | (with_reducible refine LeO.bind ?_ (fun _ => ?_))
      | exact ih0 _ _ _
      | exact ih1 _ _ _ _
      | exact ih2 _ _ _ _ _
      | exact LeO.none _
      | refine LeO.ite ?_ ?_
      | refine LeO.bind ?_ (fun _ => ?_)
theorem spec_wiLists.mono : ∀ a0 a1 a2 k, LeO (spec_wiLists.f k a0 a1 a2) (spec_wiLists.f (k + 1) a0 a1 a2) := by
  intro a0 a1 a2 k
  obtain ⟨ih0, ih1, ih2⟩ := spec_wiLists.mono_l k
  exact ih0 a0 a1 a2
set_option maxHeartbeats 8000000 in
set_option maxRecDepth 100000 in
theorem spec_wiLists.calls (k : Nat) : ∀ (a0 : Int) (a1 : Int) (P2_ : Nat → Prop) (A2 : Option Addr) (c2 : Nat) (l2 : List Int) (r : List (List Int)) (w : World) (hs2 : Kd.V (Kd.int .i64) 3 w w.heap.size (fun k_ => P2_ k_) (.slice A2 l2.length c2) l2) (h : spec_wiLists.f k a0 a1 l2 = some r),
    Calls Try.prog 74 #[.int .i64 a0, .int .i64 a1, .slice A2 l2.length c2] w fun e w' => ∃ v0_ : Value, e = .returned (v0_) ∧ Kd.N (Kd.slice 3 (Kd.int .i64)) 32 w' w.heap.size (fun k_ => (P2_ k_ ∨ w.heap.size ≤ k_)) v0_ r ∧ Below w.heap.size w w' := by
  induction k using Nat.strongRecOn with
  | _ k ih =>
  intro a0 a1 P2_ A2 c2 l2 r w hs2 h
  cases k with
  | zero => exact absurd h (by simp [spec_wiLists.f])
  | succ k =>
  simp only [spec_wiLists.f] at h
  have HO2 := Aside0.mk (show Kd.V (Kd.int .i64) 3 w w.heap.size (fun k_ => (P2_ k_ ∨ w.heap.size ≤ k_)) (.slice A2 l2.length c2) l2 from Kd.V_mono hs2 (fun k_ hk => .inl hk))
  have HB := Aside0.mk (Below.refl w.heap.size w)
  have H : (if a1 = 0 then (some (([l2] : List (List Int)))) else (if (l2.length : Int) > 0 then (if 0 ≤ (wrap64 ((l2.length : Int) - 1)) then (if (wrap64 ((l2.length : Int) - 1)) < (l2.length : Int) then (spec_wiLists.j0 k a0 a1 l2 (wrap64 ((rd l2 (wrap64 ((l2.length : Int) - 1))) + 1))) else (none)) else (none)) else (spec_wiLists.j0 k a0 a1 l2 0))) = some r := h
  clear h
  by_cases c4 : a1 = 0
  · rw [if_pos c4] at H
    have c4b0 : (a1 == 0) = true := beq_iff_eq.mpr c4
    have c4b1 : (a1 != 0) = false := bne_eq_false_iff_eq.mpr c4
    clear c4
    obtain ⟨y116, hy116⟩ : ∃ y_ : List (List Int), y_ = (([l2] : List (List Int))) := ⟨_, rfl⟩
    replace H : (some y116) = some r := by first | (rw [hy116]; with_reducible exact H) | (have H2_ := (Option.bind_some _ _).symm.trans H; rw [hy116]; with_reducible exact H2_) | (have H2_ := (Option.bind_some _ _).symm.trans H; with_reducible exact H2_) | with_reducible exact H | (rw [hy116]; exact H) | exact H
    have Ny116 := Aside0.mk hy116
    clear hy116
    obtain rfl := Option.some.inj H
    go_enter Try.func74, Try.ntmps74
    go_wp2_with (first | ((with_reducible refine gate_dst (N := 13) rfl ?_); refine Kd.N_lit (Kd.slice 3 (Kd.int .i64)) _ 32 ?hg (N' := 13) ?hd (xs := ([l2] : List (List Int))) (inner := [.slice A2 l2.length c2]) (ok := (fun k_ => (P2_ k_ ∨ w.heap.size ≤ k_))) (okp := (fun k_ => (P2_ k_ ∨ w.heap.size ≤ k_))) ?hr ?hp (fun _ hk => hk) ((show ∀ k_, w.heap.size ≤ k_ → (fun k_ => (P2_ k_ ∨ w.heap.size ≤ k_)) k_ from fun k_ hk => (.inr (Nat.le_trans (below_size (by repeat (first | (with_reducible first | exact HB.out | apply below_alloc | apply pw_below_drewN | apply below_drew1) | exact HB.out))) hk))) _ (Nat.le_refl _)) (Below.refl _ _) (Nat.le_refl _) (by simp) ?_; (case hd => rfl); (case hg => rfl); (case hr => first | (go_simp; done) | (go_simp; rfl)); (case hp => exact (Reps.one (show Kd.FK (Kd.slice 3 (Kd.int .i64)) _ _ l2 [.slice A2 l2.length c2] from (Kd.FK_slice_mk (Kd.V_reads' (Kd.V_mono (ok' := (fun k_ => (P2_ k_ ∨ w.heap.size ≤ k_))) (HO2.out) (fun k_ hk => hk))).2.1 (Kd.V_F (Kd.V_mono (ok' := (fun k_ => (P2_ k_ ∨ w.heap.size ≤ k_))) (HO2.out) (fun k_ hk => hk))))) (Reps.none _ _))); intro v117 w5 ho6 hb hg_ hnew_; clear hg_ hnew_; (first | rw [← Ny116.out] at ho6 | (simp only [Int.reduceToNat] at ho6; rw [← Ny116.out] at ho6)); have n0_ := Aside0.mk (Kd.V_elder' (by (with_reducible repeat (first | apply Kd.V_alloc | apply Kd.V_drewN | apply Kd.V_drew)); exact HO2.out) (Kd.N_base ho6) hb); have n1_ := Aside0.mk (Kd.N_lower ho6 (below_size (by repeat (first | (with_reducible first | exact HB.out | apply below_alloc | apply pw_below_drewN | apply below_drew1) | exact HB.out)))); have n2_ := Aside0.mk (below_step (by repeat (first | (with_reducible first | exact HB.out | apply below_alloc | apply pw_below_drewN | apply below_drew1) | exact HB.out)) hb); clear HO2; clear HB; have HO2 := n0_; have HO118 := n1_; have HB := n2_; clear n0_ n1_ n2_; clear hb ho6))
    go_ret
    exact ⟨_, by first | rfl | (simp [errW_none, errW_some] <;> rfl) | (simp [*, errW_none, errW_some] <;> rfl), by (with_reducible repeat (first | apply Kd.N_alloc | apply Kd.N_drewN | apply Kd.N_drew)); exact HO118.out, by repeat (first | (with_reducible first | exact HB.out | apply below_alloc | apply pw_below_drewN | apply below_drew1) | exact HB.out)⟩
  · rw [if_neg c4] at H
    have c4b0 : (a1 == 0) = false := beq_eq_false_iff_ne.mpr c4
    have c4b1 : (a1 != 0) = true := bne_iff_ne.mpr c4
    have HC7 := Aside0.mk H
    clear H
    go_enter Try.func74, Try.ntmps74
    go_upto_if 16 with (fail)
    go_cut [7] (fun v7 wc => ∃ (kq : Nat) (x7_6 : Int), v7 = .int .i64 x7_6 ∧ Aside0 (spec_wiLists.j0 kq a0 a1 l2 x7_6 = some r) ∧ Aside0 (kq ≤ k) ∧ Aside0 (Kd.V (Kd.int .i64) 3 wc w.heap.size (fun k_ => (P2_ k_ ∨ w.heap.size ≤ k_)) (.slice A2 l2.length c2) l2) ∧ Aside0 (Below w.heap.size w wc))
    case first =>
      have H := HC7.out
      clear HC7
      by_cases c8 : (l2.length : Int) > 0
      · rw [if_pos c8] at H
        have c8b0 : decide (0 < (l2.length : Int)) = true := decide_eq_true c8
        have c8b1 : decide (0 < l2.length) = true := decide_eq_true (by omega)
        clear c8
        (first | rw [c8b0] | (simp only [i64_w, i32_w]; rw [c8b0]) |rw [c8b1] | rw [c8b2] | skip)
        obtain ⟨ji9, hji9⟩ : ∃ j_ : Int, (wrap64 ((l2.length : Int) - 1)) = j_ := ⟨_, rfl⟩
        replace H : (if 0 ≤ (ji9) then (if (ji9) < (l2.length : Int) then (spec_wiLists.j0 k a0 a1 l2 (wrap64 ((rd l2 (ji9)) + 1))) else (none)) else (none)) = some r := by first | (rw [hji9] at H; exact H) | (simp only [hji9] at H ⊢; exact H)
        have hji9w : (IntKind.i64.wrap ((l2.length : Int) - 1)) = ji9 := (i64_w _).trans hji9
        by_cases c10 : 0 ≤ (ji9)
        · rw [if_pos c10] at H
          have c10b0 : decide (0 ≤ (ji9)) = true := decide_eq_true c10
          clear c10
          by_cases c11 : (ji9) < (l2.length : Int)
          · rw [if_pos c11] at H
            have c11b0 : decide ((ji9) < (l2.length : Int)) = true := decide_eq_true c11
            clear c11
            have H' := Aside0.mk H
            clear H
            have p119 : 0 ≤ ((ji9) : Int) := of_decide_eq_true (by first | (with_reducible assumption) | assumption)
            have q119 : (ji9) < (l2.length : Int) := of_decide_eq_true (by first | (with_reducible assumption) | assumption)
            obtain ⟨ad119, e119, hx119_0⟩ := Kd.at_int (Kd.V_reads' HO2.out).2.2 (ji9) p119 q119
            cases e119
            replace p119 := eq_true p119
            replace q119 := eq_true q119
            go_wp2
            go_meet
            case rel => exact ⟨_, (wrap64 ((rd l2 (ji9)) + 1)), (by first | rfl | (simp; done) | (simp only [← hji9] <;> (first | rfl | simp)) | (simp [*]; done)), H', ⟨by first | omega | exact Nat.le_refl _⟩, ⟨by (with_reducible repeat (first | apply Kd.V_alloc | apply Kd.V_drewN | apply Kd.V_drew)); exact HO2.out⟩, ⟨by repeat (first | (with_reducible first | exact HB.out | apply below_alloc | apply pw_below_drewN | apply below_drew1) | exact HB.out)⟩⟩
          · rw [if_neg c11] at H
            exact absurd H (by simp)
        · rw [if_neg c10] at H
          exact absurd H (by simp)
      · rw [if_neg c8] at H
        have c8b0 : decide (0 < (l2.length : Int)) = false := decide_eq_false c8
        have c8b1 : decide (0 < l2.length) = false := decide_eq_false (by omega)
        clear c8
        (first | rw [c8b0] | (simp only [i64_w, i32_w]; rw [c8b0]) |rw [c8b1] | rw [c8b2] | skip)
        have H' := Aside0.mk H
        clear H
        go_wp2
        go_meet
        case rel => exact ⟨_, (0), (by first | rfl | (simp; done) | (simp [*]; done)), H', ⟨by first | omega | exact Nat.le_refl _⟩, ⟨by (with_reducible repeat (first | apply Kd.V_alloc | apply Kd.V_drewN | apply Kd.V_drew)); exact HO2.out⟩, ⟨by repeat (first | (with_reducible first | exact HB.out | apply below_alloc | apply pw_below_drewN | apply below_drew1) | exact HB.out)⟩⟩
    case rest =>
      clear HC7
      try clear c1
      try clear p1
      try clear q1
      try clear hx1
      try clear c2
      try clear p2
      try clear c4
      try clear c4b0
      try clear c4b1
      try clear p6
      try clear c7
      try clear c8
      try clear c8b0
      try clear c8b1
      try clear c10
      try clear c10b0
      try clear c11
      try clear c11b0
      try clear p11
      try clear q11
      try clear hx11
      try clear hx119_0
      try clear p119
      try clear q119
      obtain ⟨kq, x7_6, rfl, HA, HJ6, HO_2, HB⟩ := hcut
      cases kq with
      | zero => exact absurd HA.out (by simp [spec_wiLists.j0])
      | succ kj6 =>
        have H := HA.out
        clear HA
        simp only [spec_wiLists.j0] at H
        have H' := Aside0.mk H
        clear H
        go_wp2
        go_loopg [8, 9] kj6 (fun kq v8 v9 w' => ∃ (x8_2 : List (List Int)) (x9_2 : Int), v9 = .int .i64 x9_2 ∧ Aside0 (spec_wiLists.l0 kq a0 a1 l2 x8_2 x9_2 = some r) ∧ Aside0 (kq ≤ kj6) ∧ Aside0 (Kd.V (Kd.int .i64) 3 w' w.heap.size (fun k_ => (P2_ k_ ∨ w.heap.size ≤ k_) ∧ some k_ ≠ (v8 : Value).ownBlock) (.slice A2 l2.length c2) l2) ∧ Aside0 (Kd.N (Kd.slice 3 (Kd.int .i64)) 32 w' w.heap.size (fun k_ => (P2_ k_ ∨ w.heap.size ≤ k_)) v8 x8_2) ∧ Aside0 (Below w.heap.size w w'))
        case atStart => exact ⟨(([] : List (List Int))), (x7_6), (by first | rfl | (simp; done) | (simp [*]; done)), H', ⟨Nat.le_refl _⟩, ⟨by (with_reducible repeat (first | apply Kd.V_alloc | apply Kd.V_drewN | apply Kd.V_drew)); exact Kd.V_mono HO_2.out (fun _ hk => ⟨hk, (by simp [Value.ownBlock])⟩)⟩, ⟨by first | exact Kd.S_nil _ _ _ _ _ | exact Kd.N_nil _ _ _ _ _ | exact Kd.V_nil _ _ _ _ _ | exact Kd.Q_nil _ _ _ _ _ | exact Kd.R_nil _ _ _ _ _⟩, ⟨by repeat (first | (with_reducible first | exact HB.out | apply below_alloc | apply pw_below_drewN | apply below_drew1) | exact HB.out)⟩⟩
        case round =>
          clear H'
          try clear c1
          try clear p1
          try clear q1
          try clear hx1
          try clear c2
          try clear p2
          try clear c4
          try clear c4b0
          try clear c4b1
          try clear p6
          try clear c7
          try clear c8
          try clear c8b0
          try clear c8b1
          try clear c10
          try clear c10b0
          try clear c11
          try clear c11b0
          try clear p11
          try clear q11
          try clear hx11
          try clear hx119_0
          try clear p1
          try clear p11
          try clear p119
          try clear p2
          try clear p6
          try clear q1
          try clear q11
          try clear q119
          obtain ⟨x8_2, x9_2, rfl, HA, HK2, HO_2, HO_8, HB⟩ := hrel
          cases gk with
          | zero => exact absurd HA.out (by simp [spec_wiLists.l0])
          | succ k2 =>
            have H := HA.out
            clear HA
            simp only [spec_wiLists.l0] at H
            by_cases c12 : x9_2 < a0
            · rw [if_pos c12] at H
              have c12b0 : decide (x9_2 < a0) = true := decide_eq_true c12
              clear c12
              replace H := Option.bind_eq_some_iff.mp H
              obtain ⟨t120, A130, H⟩ := H
              replace H : (if t120.length < 17592186044416 then ((spec_wiLists.f k2 a0 (wrap64 (a1 - 1)) (t120 ++ [x9_2])).bind fun t126 => (if x8_2.length + t126.length < 5864062014805 then (spec_wiLists.l0 k2 a0 a1 l2 (x8_2 ++ t126) (wrap64 (x9_2 + 1))) else (none))) else (none)) = some r := H
              have A13 := Aside0.mk A130
              clear A130
              by_cases c14 : t120.length < 17592186044416
              · rw [if_pos c14] at H
                have LMc14 := Aside0.mk c14
                clear c14
                obtain ⟨y123, hy123⟩ : ∃ y_ : List Int, y_ = (t120 ++ [x9_2]) := ⟨_, rfl⟩
                replace H : ((spec_wiLists.f k2 a0 (wrap64 (a1 - 1)) y123).bind fun t126 => (if x8_2.length + t126.length < 5864062014805 then (spec_wiLists.l0 k2 a0 a1 l2 (x8_2 ++ t126) (wrap64 (x9_2 + 1))) else (none))) = some r := by first | (rw [hy123]; with_reducible exact H) | (have H2_ := (Option.bind_some _ _).symm.trans H; rw [hy123]; with_reducible exact H2_) | (have H2_ := (Option.bind_some _ _).symm.trans H; with_reducible exact H2_) | with_reducible exact H | (rw [hy123]; exact H) | exact H
                have Ny123 := Aside0.mk hy123
                clear hy123
                replace H := Option.bind_eq_some_iff.mp H
                obtain ⟨t126, A150, H⟩ := H
                replace H : (if x8_2.length + t126.length < 5864062014805 then (spec_wiLists.l0 k2 a0 a1 l2 (x8_2 ++ t126) (wrap64 (x9_2 + 1))) else (none)) = some r := H
                have A15 := Aside0.mk A150
                clear A150
                by_cases c16 : x8_2.length + t126.length < 5864062014805
                · rw [if_pos c16] at H
                  have LMc16 := Aside0.mk c16
                  clear c16
                  obtain ⟨y129, hy129⟩ : ∃ y_ : List (List Int), y_ = (x8_2 ++ t126) := ⟨_, rfl⟩
                  replace H : (spec_wiLists.l0 k2 a0 a1 l2 y129 (wrap64 (x9_2 + 1))) = some r := by first | (rw [hy129]; with_reducible exact H) | (have H2_ := (Option.bind_some _ _).symm.trans H; rw [hy129]; with_reducible exact H2_) | (have H2_ := (Option.bind_some _ _).symm.trans H; with_reducible exact H2_) | with_reducible exact H | (rw [hy129]; exact H) | exact H
                  have Ny129 := Aside0.mk hy129
                  clear hy129
                  have H' := Aside0.mk H
                  clear H
                  go_wp2_with (first | ((with_reducible refine gate_callee (f := 78) rfl ?_); refine goesL_ (some 35) rfl rfl Try.func78 (by kernel_rfl) rfl #[.slice A2 l2.length c2] rfl (by (try simp only [List.map_toArray, List.map_cons, List.map_nil]); first | done | rfl | (simp only [List.length_drop, List.length_take]; rfl) | (simp; done) | (refine congrArg Value.bool ?_; simp; done) | (refine congrArg (fun z_ => #[Value.bool z_]) ?_; simp; done)) ?_; (with_reducible refine (spec_l1Own.calls _ _ l2 t120 _ ?side1 ?side2 A13.out).mono ?_); (case side1 => repeat (first | exact (Kd.V_reads' HO_2.out).2.2 | (with_reducible refine Kd.C_alloc ?_ _) | (with_reducible refine Kd.C_drewN ?_ _) | (with_reducible refine Kd.C_drew ?_))); (case side2 => exact (Kd.V_reads' HO_2.out).2.1); rintro e w17 ⟨v121, rfl, ho0, hb⟩; refine ⟨_, rfl, ?_⟩; have n0_ := Aside0.mk (Kd.V_elder' (by (with_reducible repeat (first | apply Kd.V_alloc | apply Kd.V_drewN | apply Kd.V_drew)); exact HO_2.out) (Kd.R_base ho0) hb); have n1_ := Aside0.mk (Kd.N_elder' (by (with_reducible repeat (first | apply Kd.N_alloc | apply Kd.N_drewN | apply Kd.N_drew)); exact HO_8.out) (Kd.R_base ho0) hb); have n2_ := Aside0.mk (Kd.R_lower (Kd.R_newM (M := fun k_ => (w.heap.size ≤ k_)) ho0 (below_size (by repeat (first | (with_reducible first | exact HB.out | apply below_alloc | apply pw_below_drewN | apply below_drew1) | exact HB.out))) (fun k_ h_ => h_)) (below_size (by repeat (first | (with_reducible first | exact HB.out | apply below_alloc | apply pw_below_drewN | apply below_drew1) | exact HB.out)))); have n3_ := Aside0.mk (below_step (by repeat (first | (with_reducible first | exact HB.out | apply below_alloc | apply pw_below_drewN | apply below_drew1) | exact HB.out)) hb); clear HO_2; clear HO_8; clear HB; have HO_2 := n0_; have HO_8 := n1_; have HO122 := n2_; have HB := n3_; clear n0_ n1_ n2_ n3_; (try clear hb); (try clear hb2); (try clear hk); (try clear hi); (try clear ho0)) | ((with_reducible refine gate_builtin (b := .append) (xs := #[.tmp 35, .tmp 37]) rfl ?_); at_builtin; refine Kd.R_append (Kd.int .i64) (w0 := w) w.heap.size rfl (.tmp 35) (.tmp 37) 32 3 (.int .i64 0) 8 rfl Try.underlying32 info3 rfl (by decide) (by omega) v121 t120 x9_2 [.int .i64 x9_2] (fun k_ => (w.heap.size ≤ k_)) (fun _ => False) rfl rfl ?aP (fun _ hk => hk.elim) ?aF ?aO ?aB ?aS ?aL ?_; (case aP => exact rfl); (case aB => exact (by repeat (first | (with_reducible first | exact HB.out | apply below_alloc | apply pw_below_drewN | apply below_drew1) | exact HB.out))); (case aF => exact (fun k_ hk => (Nat.le_trans (below_size (by repeat (first | (with_reducible first | exact HB.out | apply below_alloc | apply pw_below_drewN | apply below_drew1) | exact HB.out))) hk))); (case aO => exact (by (with_reducible repeat (first | apply Kd.R_alloc | apply Kd.R_drewN | apply Kd.R_drew)); exact Kd.R_mono HO122.out (fun _ hk => hk.1))); (case aS => exact (below_size (by repeat (first | (with_reducible first | exact HB.out | apply below_alloc | apply pw_below_drewN | apply below_drew1) | exact HB.out)))); (case aL => have := LMc14.out; omega); intro v124 w18 ho hb hg hat; rw [← Ny123.out] at ho; have n0_ := Aside0.mk (Kd.V_afterv (ok := (fun k_ => (P2_ k_ ∨ w.heap.size ≤ k_) ∧ some k_ ≠ (u8 : Value).ownBlock)) (by (with_reducible repeat (first | apply Kd.V_alloc | apply Kd.V_drewN | apply Kd.V_drew)); exact HO_2.out) hg hat); have n1_ := Aside0.mk (Kd.N_afterv (ok := (fun k_ => (P2_ k_ ∨ w.heap.size ≤ k_))) (by (with_reducible repeat (first | apply Kd.N_alloc | apply Kd.N_drewN | apply Kd.N_drew)); exact HO_8.out) hg hat); have n2_ := Aside0.mk (hb); have n3_ := Aside0.mk (ho); clear HO_2; clear HO_8; clear HB; clear HO122; have HO_2 := n0_; have HO_8 := n1_; have HB := n2_; have HO125 := n3_; clear n0_ n1_ n2_ n3_; clear ho hb hg hat; obtain ⟨Ao19, co19, eo19⟩ := Kd.R_slice HO125.out; subst eo19) | ((with_reducible refine gate_callee (f := 74) rfl ?_); refine goesL_ (some 39) rfl rfl Try.func74 (by kernel_rfl) rfl #[.int .i64 a0, .int .i64 (wrap64 (a1 - 1)), .slice Ao19 y123.length co19] rfl (by (try simp only [List.map_toArray, List.map_cons, List.map_nil]); first | done | rfl | (simp only [List.length_drop, List.length_take]; rfl) | (simp; done) | (refine congrArg Value.bool ?_; simp; done) | (refine congrArg (fun z_ => #[Value.bool z_]) ?_; simp; done)) ?_; (with_reducible refine (ih k2 (by have := HJ6.out; have := HK2.out; omega) a0 (wrap64 (a1 - 1)) (fun k_ => some k_ = (.slice Ao19 y123.length co19 : Value).ownBlock) _ _ y123 t126 _ ?side1 A15.out).mono ?_); (case side1 => exact Kd.R_V (Kd.R_tight rfl (Kd.R_apart' (HO125.out) (Kd.N_typed HO_8.out) (by decide)))); rintro e w20 ⟨v127, rfl, ho0, hb⟩; refine ⟨_, rfl, ?_⟩; have n0_ := Aside0.mk (Kd.V_elder' (by (with_reducible repeat (first | apply Kd.V_alloc | apply Kd.V_drewN | apply Kd.V_drew)); exact HO_2.out) (Kd.N_base ho0) hb); have n1_ := Aside0.mk (Kd.N_elder' (by (with_reducible repeat (first | apply Kd.N_alloc | apply Kd.N_drewN | apply Kd.N_drew)); exact HO_8.out) (Kd.N_base ho0) hb); have n2_ := Aside0.mk (Kd.R_below (by (with_reducible repeat (first | apply Kd.R_alloc | apply Kd.R_drewN | apply Kd.R_drew)); exact HO125.out) hb); have n3_ := Aside0.mk (Kd.N_lower (Kd.N_mono (ok' := fun k_ => (P2_ k_ ∨ w.heap.size ≤ k_) ∧ some k_ ≠ (u8 : Value).ownBlock) ho0 (fun k_ hk_ => ⟨Or.elim hk_ (fun hs_ => (.inr (((Kd.R_apart' (HO125.out) (Kd.N_typed HO_8.out) (by decide)).1 k_ hs_.symm).1))) (fun hn_ => (.inr (Nat.le_trans (below_size (by repeat (first | (with_reducible first | exact HB.out | apply below_alloc | apply pw_below_drewN | apply below_drew1) | exact HB.out))) hn_))), Or.elim hk_ (fun hs_ => ((Kd.R_apart' (HO125.out) (Kd.N_typed HO_8.out) (by decide)).1 k_ hs_.symm).2) (fun hn_ => (Kd.fresh' (Kd.N_lt (by (with_reducible repeat (first | apply Kd.N_alloc | apply Kd.N_drewN | apply Kd.N_drew)); exact HO_8.out)) k_ hn_))⟩)) (below_size (by repeat (first | (with_reducible first | exact HB.out | apply below_alloc | apply pw_below_drewN | apply below_drew1) | exact HB.out)))); have n4_ := Aside0.mk (below_step (by repeat (first | (with_reducible first | exact HB.out | apply below_alloc | apply pw_below_drewN | apply below_drew1) | exact HB.out)) hb); clear HO_2; clear HO_8; clear HO125; clear HB; have HO_2 := n0_; have HO_8 := n1_; have HO125 := n2_; have HO128 := n3_; have HB := n4_; clear n0_ n1_ n2_ n3_ n4_; (try clear hb); (try clear hb2); (try clear hk); (try clear hi); (try clear ho0); obtain ⟨Ao22, co22, eo22⟩ := Kd.N_slice HO128.out; subst eo22) | ((with_reducible refine gate_builtin (b := .append) (xs := #[.tmp 30, .tmp 39]) rfl ?_); at_builtin; refine Kd.N_append_rows (Kd.slice 3 (Kd.int .i64)) (w0 := w) w.heap.size rfl (.tmp 30) (.tmp 39) 22 32 (.slice none 0 0) 24 rfl Try.underlying22 info32 rfl (by decide) (by omega) u8 x8_2 t126 _ _ _ (fun k_ => (P2_ k_ ∨ w.heap.size ≤ k_)) (fun k_ => ((fun k_ => (P2_ k_ ∨ w.heap.size ≤ k_))) k_ ∧ some k_ ≠ (u8 : Value).ownBlock) rfl rfl ?aO ?aR (fun _ hk => hk) ?aF ?aB ?aS ?aL ?_; (case aR => exact (by skip; exact Kd.N_F (Kd.N_mono (ok' := (fun k_ => ((fun k_ => (P2_ k_ ∨ w.heap.size ≤ k_))) k_ ∧ some k_ ≠ (u8 : Value).ownBlock)) (HO128.out) (fun k_ hk => ⟨hk.1, hk.2⟩)))); (case aB => exact (by repeat (first | (with_reducible first | exact HB.out | apply below_alloc | apply pw_below_drewN | apply below_drew1) | exact HB.out))); (case aF => exact (fun k_ hk => (.inr (Nat.le_trans (below_size (by repeat (first | (with_reducible first | exact HB.out | apply below_alloc | apply pw_below_drewN | apply below_drew1) | exact HB.out))) hk)))); (case aO => exact (by (with_reducible repeat (first | apply Kd.N_alloc | apply Kd.N_drewN | apply Kd.N_drew)); exact Kd.N_mono HO_8.out (fun _ hk => hk.1.1))); (case aS => exact (below_size (by repeat (first | (with_reducible first | exact HB.out | apply below_alloc | apply pw_below_drewN | apply below_drew1) | exact HB.out)))); (case aL => have := LMc16.out; omega); intro v130 w21 ho hb hg hat; rw [← Ny129.out] at ho; have n0_ := Aside0.mk (Kd.V_afterv (ok := (fun k_ => (P2_ k_ ∨ w.heap.size ≤ k_) ∧ some k_ ≠ (.slice Ao19 y123.length co19 : Value).ownBlock ∧ some k_ ≠ (.slice Ao22 t126.length co22 : Value).ownBlock)) (by (with_reducible repeat (first | apply Kd.V_alloc | apply Kd.V_drewN | apply Kd.V_drew)); exact Kd.V_mono HO_2.out (fun _ hk => ⟨⟨hk.1.1.1, ⟨hk.1.2, hk.2⟩⟩, hk.1.1.2⟩)) hg hat); have n1_ := Aside0.mk (Kd.R_over' (by (with_reducible repeat (first | apply Kd.R_alloc | apply Kd.R_drewN | apply Kd.R_drew)); exact HO125.out) (Kd.N_typed (by (with_reducible repeat (first | apply Kd.N_alloc | apply Kd.N_drewN | apply Kd.N_drew)); exact HO_8.out)) (by decide) hg); have n2_ := Aside0.mk (Kd.N_afterv (ok := (fun k_ => (P2_ k_ ∨ w.heap.size ≤ k_))) (by (with_reducible repeat (first | apply Kd.N_alloc | apply Kd.N_drewN | apply Kd.N_drew)); exact HO128.out) hg hat); have n3_ := Aside0.mk (hb); have n4_ := Aside0.mk (ho); clear HO_2; clear HO125; clear HO128; clear HB; clear HO_8; have HO_2 := n0_; have HO125 := n1_; have HO128 := n2_; have HB := n3_; have HO131 := n4_; clear n0_ n1_ n2_ n3_ n4_; clear ho hb hg hat))
                  go_roundg k2
                  case measure => have := HJ6.out; have := HK2.out; omega
                  case rel => exact ⟨(y129), (wrap64 (x9_2 + 1)), (by first | rfl | (simp; done) | (simp [*]; done)), H', ⟨by have := HJ6.out; have := HK2.out; omega⟩, ⟨by (with_reducible repeat (first | apply Kd.V_alloc | apply Kd.V_drewN | apply Kd.V_drew)); exact Kd.V_mono HO_2.out (fun _ hk => ⟨hk.1.1, hk.2⟩)⟩, ⟨by (with_reducible repeat (first | apply Kd.N_alloc | apply Kd.N_drewN | apply Kd.N_drew)); exact HO131.out⟩, ⟨by repeat (first | (with_reducible first | exact HB.out | apply below_alloc | apply pw_below_drewN | apply below_drew1) | exact HB.out)⟩⟩
                · rw [if_neg c16] at H
                  exact absurd H (by simp)
              · rw [if_neg c14] at H
                exact absurd H (by simp)
            · rw [if_neg c12] at H
              have c12b0 : decide (x9_2 < a0) = false := decide_eq_false c12
              clear c12
              obtain rfl := Option.some.inj H
              go_wp2
              go_ret
              exact ⟨_, by first | rfl | (simp [errW_none, errW_some] <;> rfl) | (simp [*, errW_none, errW_some] <;> rfl), by (with_reducible repeat (first | apply Kd.N_alloc | apply Kd.N_drewN | apply Kd.N_drew)); exact HO_8.out, by repeat (first | (with_reducible first | exact HB.out | apply below_alloc | apply pw_below_drewN | apply below_drew1) | exact HB.out)⟩

/-! ### spec_wiAll: function 54 -/
def spec_wiAll.l0 : Nat → Int → Int → List (List Int) → Int → Option ((List (List Int)))
  | 0, _, _, _, _ => none
  | k + 1, x0, x1, x5, x6 => if x6 ≤ x1 then ((spec_wiLists.f k x0 x6 ([] : List Int)).bind fun t132 => (if x5.length + t132.length < 5864062014805 then (spec_wiAll.l0 k x0 x1 (x5 ++ t132) (wrap64 (x6 + 1))) else (none))) else (some x5)
def spec_wiAll.f (k : Nat) (a0 : Int) (a1 : Int) : Option ((List (List Int))) := spec_wiAll.l0 k a0 a1 ([] : List (List Int)) 0
theorem spec_wiAll.mono_l : ∀ k, (∀ y0 y1 y2 y3, LeO (spec_wiAll.l0 k y0 y1 y2 y3) (spec_wiAll.l0 (k + 1) y0 y1 y2 y3))
  | 0 => fun _ _ _ _ r h => by simp [spec_wiAll.l0] at h
  | k + 1 => by
    have ih0 := spec_wiAll.mono_l k
    · intro y0 y1 y2 y3
      unfold spec_wiAll.l0
      repeat' first
      | (with_reducible exact ih0 _ _ _ _)
      | (with_reducible exact spec_wiLists.mono _ _ _ _)
      | (with_reducible exact LeO.refl _)
      | (with_reducible exact LeO.none _)
      | (with_reducible refine LeO.ite ?_ ?_)
      | (with_reducible refine LeO.bind ?_ (fun _ => ?_))
      | exact ih0 _ _ _ _
      | exact spec_wiLists.mono _ _ _ _
      | exact LeO.none _
      | refine LeO.ite ?_ ?_
      | refine LeO.bind ?_ (fun _ => ?_)
theorem spec_wiAll.mono : ∀ a0 a1 k, LeO (spec_wiAll.f k a0 a1) (spec_wiAll.f (k + 1) a0 a1) := by
  intro a0 a1 k
  have ih0 := spec_wiAll.mono_l k
  unfold spec_wiAll.f
  repeat' first
      | (with_reducible exact ih0 _ _ _ _)
      | (with_reducible exact spec_wiLists.mono _ _ _ _)
      | (with_reducible exact LeO.refl _)
      | (with_reducible exact LeO.none _)
      | (with_reducible refine LeO.ite ?_ ?_)
      | (with_reducible refine LeO.bind ?_ (fun _ => ?_))
      | exact ih0 _ _ _ _
      | exact spec_wiLists.mono _ _ _ _
      | exact LeO.none _
      | refine LeO.ite ?_ ?_
      | refine LeO.bind ?_ (fun _ => ?_)
set_option maxHeartbeats 8000000 in
set_option maxRecDepth 100000 in
theorem spec_wiAll.calls (k : Nat) (a0 : Int) (a1 : Int) (r : List (List Int)) (w : World) (h : spec_wiAll.f k a0 a1 = some r) :
    Calls Try.prog 54 #[.int .i64 a0, .int .i64 a1] w fun e w' => ∃ v0_ : Value, e = .returned (v0_) ∧ Kd.N (Kd.slice 3 (Kd.int .i64)) 32 w' w.heap.size (fun k_ => (w.heap.size ≤ k_)) v0_ r ∧ Below w.heap.size w w' := by
  have HB := Aside0.mk (Below.refl w.heap.size w)
  have H : (spec_wiAll.l0 k a0 a1 ([] : List (List Int)) 0) = some r := h
  clear h
  have H' := Aside0.mk H
  clear H
  go_enter Try.func54, Try.ntmps54
  go_wp2
  go_loopg [5, 6] k (fun kq v5 v6 w' => ∃ (x5_1 : List (List Int)) (x6_1 : Int), v6 = .int .i64 x6_1 ∧ Aside0 (spec_wiAll.l0 kq a0 a1 x5_1 x6_1 = some r) ∧ Aside0 (kq ≤ k) ∧ Aside0 (Kd.N (Kd.slice 3 (Kd.int .i64)) 32 w' w.heap.size (fun k_ => (w.heap.size ≤ k_)) v5 x5_1) ∧ Aside0 (Below w.heap.size w w'))
  case atStart => exact ⟨(([] : List (List Int))), (0), (by first | rfl | (simp; done) | (simp [*]; done)), H', ⟨Nat.le_refl _⟩, ⟨by first | exact Kd.S_nil _ _ _ _ _ | exact Kd.N_nil _ _ _ _ _ | exact Kd.V_nil _ _ _ _ _ | exact Kd.Q_nil _ _ _ _ _ | exact Kd.R_nil _ _ _ _ _⟩, ⟨by repeat (first | (with_reducible first | exact HB.out | apply below_alloc | apply pw_below_drewN | apply below_drew1) | exact HB.out)⟩⟩
  case round =>
    clear H'
    try clear p2
    obtain ⟨x5_1, x6_1, rfl, HA, HK1, HO_5, HB⟩ := hrel
    cases gk with
    | zero => exact absurd HA.out (by simp [spec_wiAll.l0])
    | succ k1 =>
      have H := HA.out
      clear HA
      simp only [spec_wiAll.l0] at H
      by_cases c3 : x6_1 ≤ a1
      · rw [if_pos c3] at H
        have c3b0 : decide (x6_1 ≤ a1) = true := decide_eq_true c3
        clear c3
        replace H := Option.bind_eq_some_iff.mp H
        obtain ⟨t132, A40, H⟩ := H
        replace H : (if x5_1.length + t132.length < 5864062014805 then (spec_wiAll.l0 k1 a0 a1 (x5_1 ++ t132) (wrap64 (x6_1 + 1))) else (none)) = some r := H
        have A4 := Aside0.mk A40
        clear A40
        by_cases c5 : x5_1.length + t132.length < 5864062014805
        · rw [if_pos c5] at H
          have LMc5 := Aside0.mk c5
          clear c5
          obtain ⟨y135, hy135⟩ : ∃ y_ : List (List Int), y_ = (x5_1 ++ t132) := ⟨_, rfl⟩
          replace H : (spec_wiAll.l0 k1 a0 a1 y135 (wrap64 (x6_1 + 1))) = some r := by first | (rw [hy135]; with_reducible exact H) | (have H2_ := (Option.bind_some _ _).symm.trans H; rw [hy135]; with_reducible exact H2_) | (have H2_ := (Option.bind_some _ _).symm.trans H; with_reducible exact H2_) | with_reducible exact H | (rw [hy135]; exact H) | exact H
          have Ny135 := Aside0.mk hy135
          clear hy135
          have H' := Aside0.mk H
          clear H
          go_wp2_with (first | ((with_reducible refine gate_callee (f := 74) rfl ?_); refine goesL_ (some 15) rfl rfl Try.func74 (by kernel_rfl) rfl #[.int .i64 a0, .int .i64 x6_1, .slice none 0 0] rfl (by (try simp only [List.map_toArray, List.map_cons, List.map_nil]); first | done | rfl | (simp only [List.length_drop, List.length_take]; rfl) | (simp; done) | (refine congrArg Value.bool ?_; simp; done) | (refine congrArg (fun z_ => #[Value.bool z_]) ?_; simp; done)) ?_; (refine (spec_wiLists.calls k1 a0 x6_1 (fun k_ => False) _ _ ([] : List Int) t132 _ ?side1 A4.out).mono ?_); (case side1 => exact Kd.V_nil _ _ _ _ _); rintro e w6 ⟨v133, rfl, ho0, hb⟩; refine ⟨_, rfl, ?_⟩; have n0_ := Aside0.mk (Kd.N_elder' (by (with_reducible repeat (first | apply Kd.N_alloc | apply Kd.N_drewN | apply Kd.N_drew)); exact HO_5.out) (Kd.N_base ho0) hb); have n1_ := Aside0.mk (Kd.N_lower (Kd.N_mono (ok' := fun k_ => (w.heap.size ≤ k_) ∧ some k_ ≠ (u5 : Value).ownBlock) ho0 (fun k_ hk_ => ⟨Or.elim hk_ (fun hs_ => (hs_).elim) (fun hn_ => (Nat.le_trans (below_size (by repeat (first | (with_reducible first | exact HB.out | apply below_alloc | apply pw_below_drewN | apply below_drew1) | exact HB.out))) hn_)), Or.elim hk_ (fun hs_ => (hs_).elim) (fun hn_ => (Kd.fresh' (Kd.N_lt (by (with_reducible repeat (first | apply Kd.N_alloc | apply Kd.N_drewN | apply Kd.N_drew)); exact HO_5.out)) k_ hn_))⟩)) (below_size (by repeat (first | (with_reducible first | exact HB.out | apply below_alloc | apply pw_below_drewN | apply below_drew1) | exact HB.out)))); have n2_ := Aside0.mk (below_step (by repeat (first | (with_reducible first | exact HB.out | apply below_alloc | apply pw_below_drewN | apply below_drew1) | exact HB.out)) hb); clear HO_5; clear HB; have HO_5 := n0_; have HO134 := n1_; have HB := n2_; clear n0_ n1_ n2_; (try clear hb); (try clear hb2); (try clear hk); (try clear hi); (try clear ho0); obtain ⟨Ao8, co8, eo8⟩ := Kd.N_slice HO134.out; subst eo8) | ((with_reducible refine gate_builtin (b := .append) (xs := #[.tmp 12, .tmp 15]) rfl ?_); at_builtin; refine Kd.N_append_rows (Kd.slice 3 (Kd.int .i64)) (w0 := w) w.heap.size rfl (.tmp 12) (.tmp 15) 22 32 (.slice none 0 0) 24 rfl Try.underlying22 info32 rfl (by decide) (by omega) u5 x5_1 t132 _ _ _ (fun k_ => (w.heap.size ≤ k_)) (fun k_ => ((fun k_ => (w.heap.size ≤ k_))) k_ ∧ some k_ ≠ (u5 : Value).ownBlock) rfl rfl ?aO ?aR (fun _ hk => hk) ?aF ?aB ?aS ?aL ?_; (case aR => exact (by skip; exact Kd.N_F (Kd.N_mono (ok' := (fun k_ => ((fun k_ => (w.heap.size ≤ k_))) k_ ∧ some k_ ≠ (u5 : Value).ownBlock)) (HO134.out) (fun k_ hk => ⟨hk.1, hk.2⟩)))); (case aB => exact (by repeat (first | (with_reducible first | exact HB.out | apply below_alloc | apply pw_below_drewN | apply below_drew1) | exact HB.out))); (case aF => exact (fun k_ hk => (Nat.le_trans (below_size (by repeat (first | (with_reducible first | exact HB.out | apply below_alloc | apply pw_below_drewN | apply below_drew1) | exact HB.out))) hk))); (case aO => exact (by (with_reducible repeat (first | apply Kd.N_alloc | apply Kd.N_drewN | apply Kd.N_drew)); exact Kd.N_mono HO_5.out (fun _ hk => hk.1))); (case aS => exact (below_size (by repeat (first | (with_reducible first | exact HB.out | apply below_alloc | apply pw_below_drewN | apply below_drew1) | exact HB.out)))); (case aL => have := LMc5.out; omega); intro v136 w7 ho hb hg hat; rw [← Ny135.out] at ho; have n0_ := Aside0.mk (Kd.N_afterv (ok := (fun k_ => (w.heap.size ≤ k_))) (by (with_reducible repeat (first | apply Kd.N_alloc | apply Kd.N_drewN | apply Kd.N_drew)); exact HO134.out) hg hat); have n1_ := Aside0.mk (hb); have n2_ := Aside0.mk (ho); clear HO134; clear HB; clear HO_5; have HO134 := n0_; have HB := n1_; have HO137 := n2_; clear n0_ n1_ n2_; clear ho hb hg hat))
          go_roundg k1
          case measure => have := HK1.out; omega
          case rel => exact ⟨(y135), (wrap64 (x6_1 + 1)), (by first | rfl | (simp; done) | (simp [*]; done)), H', ⟨by have := HK1.out; omega⟩, ⟨by (with_reducible repeat (first | apply Kd.N_alloc | apply Kd.N_drewN | apply Kd.N_drew)); exact HO137.out⟩, ⟨by repeat (first | (with_reducible first | exact HB.out | apply below_alloc | apply pw_below_drewN | apply below_drew1) | exact HB.out)⟩⟩
        · rw [if_neg c5] at H
          exact absurd H (by simp)
      · rw [if_neg c3] at H
        have c3b0 : decide (x6_1 ≤ a1) = false := decide_eq_false c3
        clear c3
        obtain rfl := Option.some.inj H
        go_wp2
        go_ret
        exact ⟨_, by first | rfl | (simp [errW_none, errW_some] <;> rfl) | (simp [*, errW_none, errW_some] <;> rfl), by (with_reducible repeat (first | apply Kd.N_alloc | apply Kd.N_drewN | apply Kd.N_drew)); exact HO_5.out, by repeat (first | (with_reducible first | exact HB.out | apply below_alloc | apply pw_below_drewN | apply below_drew1) | exact HB.out)⟩

/-! ### spec_wiBits: function 56 -/
def spec_wiBits.l0 : Nat → Int → List Int → Int → Int → Option (Int)
  | 0, _, _, _, _ => none
  | k + 1, x3, x6, x7, x8 => if x8 < x7 then (if 0 ≤ x8 then (if x8 < (x6.length : Int) then (if 0 ≤ (rd x6 x8) then (spec_wiBits.l0 k (Go.bits .or .i64 x3 (shl .i64 1 (rd x6 x8))) x6 x7 (wrap64 (x8 + 1))) else (none)) else (none)) else (none)) else (some x3)
def spec_wiBits.f (k : Nat) (l0 : List Int) : Option (Int) := spec_wiBits.l0 k 0 l0 (l0.length : Int) 0
theorem spec_wiBits.mono_l : ∀ k, (∀ y0 y1 y2 y3, LeO (spec_wiBits.l0 k y0 y1 y2 y3) (spec_wiBits.l0 (k + 1) y0 y1 y2 y3))
  | 0 => fun _ _ _ _ r h => by simp [spec_wiBits.l0] at h
  | k + 1 => by
    have ih0 := spec_wiBits.mono_l k
    · intro y0 y1 y2 y3
      unfold spec_wiBits.l0
      repeat' first
      | (with_reducible exact ih0 _ _ _ _)
      | (with_reducible exact LeO.refl _)
      | (with_reducible exact LeO.none _)
      | (with_reducible refine LeO.ite ?_ ?_)
      | (with_reducible refine LeO.bind ?_ (fun _ => ?_))
      | exact ih0 _ _ _ _
      | exact LeO.none _
      | refine LeO.ite ?_ ?_
      | refine LeO.bind ?_ (fun _ => ?_)
theorem spec_wiBits.mono : ∀ a0 k, LeO (spec_wiBits.f k a0) (spec_wiBits.f (k + 1) a0) := by
  intro a0 k
  have ih0 := spec_wiBits.mono_l k
  unfold spec_wiBits.f
  repeat' first
      | (with_reducible exact ih0 _ _ _ _)
      | (with_reducible exact LeO.refl _)
      | (with_reducible exact LeO.none _)
      | (with_reducible refine LeO.ite ?_ ?_)
      | (with_reducible refine LeO.bind ?_ (fun _ => ?_))
      | exact ih0 _ _ _ _
      | exact LeO.none _
      | refine LeO.ite ?_ ?_
      | refine LeO.bind ?_ (fun _ => ?_)
set_option maxHeartbeats 8000000 in
set_option maxRecDepth 100000 in
theorem spec_wiBits.calls (k : Nat) (A0 : Option Addr) (c0 : Nat) (l0 : List Int) (r : Int) (w : World) (hr0 : Kd.C (Kd.int .i64) w A0 l0.length l0) (hc0 : l0.length ≤ c0) (h : spec_wiBits.f k l0 = some r) :
    Calls Try.prog 56 #[.slice A0 l0.length c0] w fun e w' => e = .returned (.int .i64 r) ∧ Drawn0 w w' := by
  have HR0 := Aside0.mk hr0
  have HC0 := Aside0.mk hc0
  clear hr0 hc0
  have H : (spec_wiBits.l0 k 0 l0 (l0.length : Int) 0) = some r := h
  clear h
  have H' := Aside0.mk H
  clear H
  go_enter Try.func56, Try.ntmps56
  go_wp2
  go_loopg [3, 8] k (fun kq v3 v8 w' => ∃ (x3_1 : Int) (x8_1 : Int), v3 = .int .i64 x3_1 ∧ v8 = .int .i64 x8_1 ∧ Aside0 (spec_wiBits.l0 kq x3_1 l0 (l0.length : Int) x8_1 = some r) ∧ Aside0 (kq ≤ k) ∧ Drawn0 w w')
  case atStart => exact ⟨(0), (0), (by first | rfl | (simp; done) | (simp [*]; done)), (by first | rfl | (simp; done) | (simp [*]; done)), H', ⟨Nat.le_refl _⟩, by repeat (first | exact Drawn0.refl _ | apply Drawn0.step)⟩
  case round =>
    clear H'
    obtain ⟨x3_1, x8_1, rfl, rfl, HA, HK1, ⟨m1, rfl⟩⟩ := hrel
    cases gk with
    | zero => exact absurd HA.out (by simp [spec_wiBits.l0])
    | succ k1 =>
      have H := HA.out
      clear HA
      simp only [spec_wiBits.l0] at H
      by_cases c2 : x8_1 < (l0.length : Int)
      · rw [if_pos c2] at H
        have c2b0 : decide (x8_1 < (l0.length : Int)) = true := decide_eq_true c2
        clear c2
        by_cases c3 : 0 ≤ x8_1
        · rw [if_pos c3] at H
          have c3b0 : decide (0 ≤ x8_1) = true := decide_eq_true c3
          clear c3
          by_cases c4 : x8_1 < (l0.length : Int)
          · rw [if_pos c4] at H
            have c4b0 : decide (x8_1 < (l0.length : Int)) = true := decide_eq_true c4
            clear c4
            by_cases c5 : 0 ≤ (rd l0 x8_1)
            · rw [if_pos c5] at H
              have c5b0 := eq_true c5
              have c5b1 : decide (0 ≤ (rd l0 x8_1)) = true := decide_eq_true c5
              clear c5
              obtain ⟨ji6, hji6⟩ : ∃ j_ : Int, (shl .i64 1 (rd l0 x8_1)) = j_ := ⟨_, rfl⟩
              replace H : (spec_wiBits.l0 k1 (Go.bits .or .i64 x3_1 (ji6)) l0 (l0.length : Int) (wrap64 (x8_1 + 1))) = some r := by first | (rw [hji6] at H; exact H) | (simp only [hji6] at H ⊢; exact H)
              have hji6_ : (IntKind.i64.wrap (1 * 2 ^ min (rd l0 x8_1).toNat 64)) = ji6 := hji6
              have hji6z : (rd l0 x8_1) ≤ 64 → (IntKind.i64.wrap (1 * 2 ^ (rd l0 x8_1).toNat)) = ji6 := shl_small hji6
              have hji6u : (IntKind.i64.wrap (2 ^ min (rd l0 x8_1).toNat 64)) = ji6 := by have h_ := hji6_; rw [Int.one_mul] at h_; exact h_
              have hji6v : (rd l0 x8_1) ≤ 64 → (IntKind.i64.wrap (2 ^ (rd l0 x8_1).toNat)) = ji6 := fun hle_ => by have h_ := hji6z hle_; rw [Int.one_mul] at h_; exact h_
              have hji6y : (wrap64 (1 * 2 ^ min (rd l0 x8_1).toNat 64)) = ji6 := (i64_w _).symm.trans hji6_
              have hji6x : (rd l0 x8_1) ≤ 64 → (wrap64 (1 * 2 ^ (rd l0 x8_1).toNat)) = ji6 := fun h_ => (i64_w _).symm.trans (hji6z h_)
              have H' := Aside0.mk H
              clear H
              have p138 : 0 ≤ (x8_1 : Int) := of_decide_eq_true (by first | (with_reducible assumption) | assumption)
              have q138 : x8_1 < (l0.length : Int) := of_decide_eq_true (by first | (with_reducible assumption) | assumption)
              obtain ⟨ad138, e138, hx138_0⟩ := Kd.at_int HR0.out x8_1 p138 q138
              cases e138
              replace p138 := eq_true p138
              replace q138 := eq_true q138
              go_wp2
              go_roundg k1
              case measure => have := HK1.out; omega
              case rel => exact ⟨(Go.bits .or .i64 x3_1 (ji6)), (wrap64 (x8_1 + 1)), (by first | rfl | (simp; done) | (simp only [← hji6] <;> (first | rfl | simp)) | (simp [*]; done)), (by first | rfl | (simp; done) | (simp [*]; done)), H', ⟨by have := HK1.out; omega⟩, by repeat (first | exact Drawn0.refl _ | apply Drawn0.step)⟩
            · rw [if_neg c5] at H
              exact absurd H (by simp)
          · rw [if_neg c4] at H
            exact absurd H (by simp)
        · rw [if_neg c3] at H
          exact absurd H (by simp)
      · rw [if_neg c2] at H
        have c2b0 : decide (x8_1 < (l0.length : Int)) = false := decide_eq_false c2
        clear c2
        obtain rfl := Option.some.inj H
        go_wp2
        go_ret
        exact ⟨by first | rfl | (simp; done) | (simp [*]; done), by repeat (first | exact Drawn0.refl _ | apply Drawn0.step)⟩

/-! ### spec_wiResults: function 55 -/
def spec_wiResults.l0 : Nat → Int → ByteArray → List (List Int) → Int → Int → Option (ByteArray)
  | 0, _, _, _, _, _ => none
  | k + 1, x1, x5, x8, x9, x10 => if x10 < x9 then (if 0 ≤ x10 then (if x10 < (x8.length : Int) then ((spec_wiBits.f k (rd_L1 x8 x10)).bind fun t140 => (if (Go.bits .and .i64 t140 x1) = 0 then (if x5.size + 1 ≤ 9223372036854775807 then (spec_wiResults.l0 k x1 (x5 ++ (⟨#[48]⟩ : ByteArray)) x8 x9 (wrap64 (x10 + 1))) else (none)) else (if x5.size + 1 ≤ 9223372036854775807 then (spec_wiResults.l0 k x1 (x5 ++ (⟨#[49]⟩ : ByteArray)) x8 x9 (wrap64 (x10 + 1))) else (none)))) else (none)) else (none)) else (some x5)
def spec_wiResults.f (k : Nat) (l0 : List (List Int)) (a1 : Int) : Option (ByteArray) := spec_wiResults.l0 k a1 (⟨#[]⟩ : ByteArray) l0 (l0.length : Int) 0
theorem spec_wiResults.mono_l : ∀ k, (∀ y0 y1 y2 y3 y4, LeO (spec_wiResults.l0 k y0 y1 y2 y3 y4) (spec_wiResults.l0 (k + 1) y0 y1 y2 y3 y4))
  | 0 => fun _ _ _ _ _ r h => by simp [spec_wiResults.l0] at h
  | k + 1 => by
    have ih0 := spec_wiResults.mono_l k
    · intro y0 y1 y2 y3 y4
      unfold spec_wiResults.l0
      repeat' first
      | (with_reducible exact ih0 _ _ _ _ _)
      | (with_reducible exact spec_wiBits.mono _ _)
      | (with_reducible exact LeO.refl _)
      | (with_reducible exact LeO.none _)
      | (with_reducible refine LeO.ite ?_ ?_)
      | (with_reducible refine LeO.bind ?_ (fun _ => ?_))
      | exact ih0 _ _ _ _ _
      | exact spec_wiBits.mono _ _
      | exact LeO.none _
      | refine LeO.ite ?_ ?_
      | refine LeO.bind ?_ (fun _ => ?_)
theorem spec_wiResults.mono : ∀ a0 a1 k, LeO (spec_wiResults.f k a0 a1) (spec_wiResults.f (k + 1) a0 a1) := by
  intro a0 a1 k
  have ih0 := spec_wiResults.mono_l k
  unfold spec_wiResults.f
  repeat' first
      | (with_reducible exact ih0 _ _ _ _ _)
      | (with_reducible exact spec_wiBits.mono _ _)
      | (with_reducible exact LeO.refl _)
      | (with_reducible exact LeO.none _)
      | (with_reducible refine LeO.ite ?_ ?_)
      | (with_reducible refine LeO.bind ?_ (fun _ => ?_))
      | exact ih0 _ _ _ _ _
      | exact spec_wiBits.mono _ _
      | exact LeO.none _
      | refine LeO.ite ?_ ?_
      | refine LeO.bind ?_ (fun _ => ?_)
set_option maxHeartbeats 8000000 in
set_option maxRecDepth 100000 in
theorem spec_wiResults.calls (k : Nat) (A0 : Option Addr) (c0 : Nat) (l0 : List (List Int)) (a1 : Int) (r : ByteArray) (w : World) (hr0 : Kd.C (Kd.slice 3 (Kd.int .i64)) w A0 l0.length l0) (hc0 : l0.length ≤ c0) (h : spec_wiResults.f k l0 a1 = some r) :
    Calls Try.prog 55 #[.slice A0 l0.length c0, .int .i64 a1] w fun e w' => e = .returned (.string r) ∧ Drawn0 w w' := by
  have HR0 := Aside0.mk hr0
  have HC0 := Aside0.mk hc0
  clear hr0 hc0
  have H : (spec_wiResults.l0 k a1 (⟨#[]⟩ : ByteArray) l0 (l0.length : Int) 0) = some r := h
  clear h
  have H' := Aside0.mk H
  clear H
  go_enter Try.func55, Try.ntmps55
  go_wp2
  go_loopg [5, 10] k (fun kq v5 v10 w' => ∃ (x5_1 : ByteArray) (x10_1 : Int), v5 = .string x5_1 ∧ v10 = .int .i64 x10_1 ∧ Aside0 (spec_wiResults.l0 kq a1 x5_1 l0 (l0.length : Int) x10_1 = some r) ∧ Aside0 (kq ≤ k) ∧ Drawn0 w w')
  case atStart => exact ⟨((⟨#[]⟩ : ByteArray)), (0), (by first | rfl | (simp; done) | (simp [*]; done)), (by first | rfl | (simp; done) | (simp [*]; done)), H', ⟨Nat.le_refl _⟩, by repeat (first | exact Drawn0.refl _ | apply Drawn0.step)⟩
  case round =>
    clear H'
    try clear p2
    obtain ⟨x5_1, x10_1, rfl, rfl, HA, HK1, ⟨m1, rfl⟩⟩ := hrel
    cases gk with
    | zero => exact absurd HA.out (by simp [spec_wiResults.l0])
    | succ k1 =>
      have H := HA.out
      clear HA
      simp only [spec_wiResults.l0] at H
      by_cases c3 : x10_1 < (l0.length : Int)
      · rw [if_pos c3] at H
        have c3b0 : decide (x10_1 < (l0.length : Int)) = true := decide_eq_true c3
        clear c3
        by_cases c4 : 0 ≤ x10_1
        · rw [if_pos c4] at H
          have c4b0 : decide (0 ≤ x10_1) = true := decide_eq_true c4
          clear c4
          by_cases c5 : x10_1 < (l0.length : Int)
          · rw [if_pos c5] at H
            have c5b0 : decide (x10_1 < (l0.length : Int)) = true := decide_eq_true c5
            clear c5
            replace H := Option.bind_eq_some_iff.mp H
            obtain ⟨t140, A60, H⟩ := H
            replace H : (if (Go.bits .and .i64 t140 a1) = 0 then (if x5_1.size + 1 ≤ 9223372036854775807 then (spec_wiResults.l0 k1 a1 (x5_1 ++ (⟨#[48]⟩ : ByteArray)) l0 (l0.length : Int) (wrap64 (x10_1 + 1))) else (none)) else (if x5_1.size + 1 ≤ 9223372036854775807 then (spec_wiResults.l0 k1 a1 (x5_1 ++ (⟨#[49]⟩ : ByteArray)) l0 (l0.length : Int) (wrap64 (x10_1 + 1))) else (none))) = some r := H
            have A6 := Aside0.mk A60
            clear A60
            by_cases c7 : (Go.bits .and .i64 t140 a1) = 0
            · rw [if_pos c7] at H
              have c7b0 : ((Go.bits .and .i64 t140 a1) == 0) = true := beq_iff_eq.mpr c7
              have c7b1 : ((Go.bits .and .i64 t140 a1) != 0) = false := bne_eq_false_iff_eq.mpr c7
              clear c7
              by_cases c8 : x5_1.size + 1 ≤ 9223372036854775807
              · rw [if_pos c8] at H
                have c8b0 := eq_true c8
                have c8b1 : decide (x5_1.size + 1 ≤ 9223372036854775807) = true := decide_eq_true c8
                try have c8b2 : (9223372036854775807 < x5_1.size + 1) = False := eq_false (Nat.not_lt.2 c8)
                have H' := Aside0.mk H
                clear H
                have p139 : 0 ≤ (x10_1 : Int) := of_decide_eq_true (by first | (with_reducible assumption) | assumption)
                have q139 : x10_1 < (l0.length : Int) := of_decide_eq_true (by first | (with_reducible assumption) | assumption)
                obtain ⟨ad139, A139_0, c139_0, e139, hx139_0, hl139_0, hi139_0⟩ := at_L1 HR0.out x10_1 p139 q139
                cases e139
                have HR139_0 := Aside0.mk hi139_0
                have HC139_0 := Aside0.mk hl139_0
                clear hi139_0 hl139_0
                replace p139 := eq_true p139
                replace q139 := eq_true q139
                go_wp2_with (first | ((with_reducible refine gate_callee (f := 56) rfl ?_); refine goesL_ (some 15) rfl rfl Try.func56 (by kernel_rfl) rfl #[.slice A139_0 (rd_L1 l0 x10_1).length c139_0] rfl (by (try simp only [List.map_toArray, List.map_cons, List.map_nil]); first | done | rfl | (simp only [List.length_drop, List.length_take]; rfl) | (simp; done) | (refine congrArg Value.bool ?_; simp; done) | (refine congrArg (fun z_ => #[Value.bool z_]) ?_; simp; done)) ?_; (with_reducible refine (spec_wiBits.calls k1 _ _ (rd_L1 l0 x10_1) t140 _ ?side1 ?side2 A6.out).mono ?_); (case side1 => repeat (first | exact HR139_0.out | (with_reducible refine Kd.C_alloc ?_ _) | (with_reducible refine Kd.C_drewN ?_ _) | (with_reducible refine Kd.C_drew ?_))); (case side2 => exact HC139_0.out); rintro e w' ⟨rfl, ⟨nd, rfl⟩⟩; refine ⟨_, rfl, ?_⟩))
                go_roundg k1
                case measure => have := HK1.out; omega
                case rel => exact ⟨(x5_1 ++ (⟨#[48]⟩ : ByteArray)), (wrap64 (x10_1 + 1)), (by first | rfl | (simp; done) | (simp [*]; done)), (by first | rfl | (simp; done) | (simp [*]; done)), H', ⟨by have := HK1.out; omega⟩, by repeat (first | exact Drawn0.refl _ | apply Drawn0.step)⟩
              · rw [if_neg c8] at H
                exact absurd H (by simp)
            · rw [if_neg c7] at H
              have c7b0 : ((Go.bits .and .i64 t140 a1) == 0) = false := beq_eq_false_iff_ne.mpr c7
              have c7b1 : ((Go.bits .and .i64 t140 a1) != 0) = true := bne_iff_ne.mpr c7
              by_cases c9 : x5_1.size + 1 ≤ 9223372036854775807
              · rw [if_pos c9] at H
                have c9b0 := eq_true c9
                have c9b1 : decide (x5_1.size + 1 ≤ 9223372036854775807) = true := decide_eq_true c9
                try have c9b2 : (9223372036854775807 < x5_1.size + 1) = False := eq_false (Nat.not_lt.2 c9)
                have H' := Aside0.mk H
                clear H
                have p139 : 0 ≤ (x10_1 : Int) := of_decide_eq_true (by first | (with_reducible assumption) | assumption)
                have q139 : x10_1 < (l0.length : Int) := of_decide_eq_true (by first | (with_reducible assumption) | assumption)
                obtain ⟨ad139, A139_0, c139_0, e139, hx139_0, hl139_0, hi139_0⟩ := at_L1 HR0.out x10_1 p139 q139
                cases e139
                have HR139_0 := Aside0.mk hi139_0
                have HC139_0 := Aside0.mk hl139_0
                clear hi139_0 hl139_0
                replace p139 := eq_true p139
                replace q139 := eq_true q139
                go_wp2_with (first | ((with_reducible refine gate_callee (f := 56) rfl ?_); refine goesL_ (some 15) rfl rfl Try.func56 (by kernel_rfl) rfl #[.slice A139_0 (rd_L1 l0 x10_1).length c139_0] rfl (by (try simp only [List.map_toArray, List.map_cons, List.map_nil]); first | done | rfl | (simp only [List.length_drop, List.length_take]; rfl) | (simp; done) | (refine congrArg Value.bool ?_; simp; done) | (refine congrArg (fun z_ => #[Value.bool z_]) ?_; simp; done)) ?_; (with_reducible refine (spec_wiBits.calls k1 _ _ (rd_L1 l0 x10_1) t140 _ ?side1 ?side2 A6.out).mono ?_); (case side1 => repeat (first | exact HR139_0.out | (with_reducible refine Kd.C_alloc ?_ _) | (with_reducible refine Kd.C_drewN ?_ _) | (with_reducible refine Kd.C_drew ?_))); (case side2 => exact HC139_0.out); rintro e w' ⟨rfl, ⟨nd, rfl⟩⟩; refine ⟨_, rfl, ?_⟩))
                go_roundg k1
                case measure => have := HK1.out; omega
                case rel => exact ⟨(x5_1 ++ (⟨#[49]⟩ : ByteArray)), (wrap64 (x10_1 + 1)), (by first | rfl | (simp; done) | (simp [*]; done)), (by first | rfl | (simp; done) | (simp [*]; done)), H', ⟨by have := HK1.out; omega⟩, by repeat (first | exact Drawn0.refl _ | apply Drawn0.step)⟩
              · rw [if_neg c9] at H
                exact absurd H (by simp)
          · rw [if_neg c5] at H
            exact absurd H (by simp)
        · rw [if_neg c4] at H
          exact absurd H (by simp)
      · rw [if_neg c3] at H
        have c3b0 : decide (x10_1 < (l0.length : Int)) = false := decide_eq_false c3
        clear c3
        obtain rfl := Option.some.inj H
        go_wp2
        go_ret
        exact ⟨by first | rfl | (simp; done) | (simp [*]; done), by repeat (first | exact Drawn0.refl _ | apply Drawn0.step)⟩

/-! ### spec_wiTells: function 32 -/
theorem spec_wiTells.info4 : (Try.prog.info? 4).map (fun i => (i.zero, i.size, i.bytes)) = some (some (.bool false), 1, 1) := by kernel_rfl
/-- The number that the first x signs of a text of signs make. -/
def spec_wiTells.p_val (s : ByteArray) (x : Nat) : Nat := ((List.range x).map fun (j : Nat) => if rd (bytesOf s) (j : Int) = 49 then 2 ^ j else 0).sum
theorem spec_wiTells.val_succ (s : ByteArray) (x : Nat) : spec_wiTells.p_val s (x + 1) = spec_wiTells.p_val s x + (if rd (bytesOf s) (x : Int) = 49 then 2 ^ x else 0) := by
  unfold spec_wiTells.p_val
  rw [List.range_succ, List.map_append, List.sum_append]
  simp
theorem spec_wiTells.val_lt (s : ByteArray) : ∀ x : Nat, spec_wiTells.p_val s x < 2 ^ x
  | 0 => by simp [spec_wiTells.p_val]
  | x + 1 => by
    have ih := spec_wiTells.val_lt s x
    have h2 : (2 : Nat) ^ (x + 1) = 2 ^ x + 2 ^ x := by rw [Nat.pow_succ]; omega
    rw [spec_wiTells.val_succ]
    split <;> omega
def spec_wiTells.l0 : Nat → List (List Int) → List (List Int) → List Bool → Nat → Option Bool
  | 0, _, _, _, _ => none
  | k + 1, tests, all, seen, i => if i < all.length then (spec_wiBits.f k (all.getD i [])).bind fun b => (spec_wiResults.f k tests b).bind fun s => if s.size ≤ 40 then (if spec_wiTells.p_val s s.size < seen.length then (if seen.getD (spec_wiTells.p_val s s.size) false = true then some false else spec_wiTells.l0 k tests all (seen.set (spec_wiTells.p_val s s.size) true) (i + 1)) else none) else none else some true
def spec_wiTells.f (k : Nat) (a0 : Int) (l1 : List (List Int)) (a2 : Int) : Option Bool := if l1.length ≤ 40 then (spec_wiAll.f k a0 a2).bind fun all => if all.length ≤ 1000000000 then spec_wiTells.l0 k l1 all (List.replicate (2 ^ l1.length) false) 0 else none else none
theorem spec_wiTells.mono_l : ∀ k tests all seen i, LeO (spec_wiTells.l0 k tests all seen i) (spec_wiTells.l0 (k + 1) tests all seen i)
  | 0, _, _, _, _ => fun r h => by simp [spec_wiTells.l0] at h
  | k + 1, tests, all, seen, i => by
    unfold spec_wiTells.l0
    exact LeO.ite (LeO.bind (spec_wiBits.mono _ _) (fun _ => LeO.bind (spec_wiResults.mono _ _ _) (fun _ => LeO.ite (LeO.ite (LeO.ite (LeO.refl _) (spec_wiTells.mono_l k _ _ _ _)) (LeO.none _)) (LeO.none _)))) (LeO.refl _)
theorem spec_wiTells.mono : ∀ a0 l1 a2 k, LeO (spec_wiTells.f k a0 l1 a2) (spec_wiTells.f (k + 1) a0 l1 a2) := fun _ _ _ k => LeO.ite (LeO.bind (spec_wiAll.mono _ _ _) (fun _ => LeO.ite (spec_wiTells.mono_l k _ _ _ _) (LeO.none _))) (LeO.none _)
set_option maxHeartbeats 4000000 in
set_option maxRecDepth 100000 in
theorem spec_wiTells.calls (k : Nat) (a0 : Int) (A1 : Option Addr) (c1 : Nat) (l1 : List (List Int)) (a2 : Int) (r : Bool) (w : World) (hr1 : Kd.C (Kd.slice 3 (Kd.int .i64)) w A1 l1.length l1) (hc1 : l1.length ≤ c1) (h : spec_wiTells.f k a0 l1 a2 = some r) :
    Calls Try.prog 32 #[.int .i64 a0, .slice A1 l1.length c1, .int .i64 a2] w fun e w' => e = .returned (.bool r) ∧ Below w.heap.size w w' := by
  unfold spec_wiTells.f at h
  by_cases hn : l1.length ≤ 40
  case neg => rw [if_neg hn] at h; cases h
  rw [if_pos hn] at h
  replace h := Option.bind_eq_some_iff.mp h
  obtain ⟨all, hall, h⟩ := h
  by_cases hal : all.length ≤ 1000000000
  case neg => rw [if_neg hal] at h; cases h
  rw [if_pos hal] at h
  have HR := Aside0.mk hr1
  have HC := Aside0.mk hc1
  have HN := Aside0.mk hn
  have HALL := Aside0.mk hall
  have HAL := Aside0.mk hal
  have hp : (2 : Nat) ^ l1.length ≤ 2 ^ 40 := Nat.pow_le_pow_right (by decide) hn
  obtain ⟨M, hM⟩ : ∃ M : Nat, M = 2 ^ l1.length := ⟨_, rfl⟩
  rw [← hM] at h hp
  have H := Aside0.mk h
  have hsh : wrap64 (2 ^ min l1.length 64) = (M : Int) := by
    rw [Nat.min_eq_left (by omega), show ((2 : Int) ^ l1.length) = ((2 ^ l1.length : Nat) : Int) by simp, ← hM]
    unfold wrap64
    omega
  have HM := Aside0.mk hM
  have HSH := Aside0.mk hsh
  clear hsh
  have HP := Aside0.mk hp
  have h64 : decide (0 ≤ (l1.length : Int)) = true := decide_eq_true (by omega)
  clear h hr1 hc1 hn hall hal hp hM
  go_enter Try.func32, Try.ntmps32
  go_wp2_with ((with_reducible refine gate_dst (N := 16) rfl ?_); refine Kd.R_make Kd.bool (w0 := w) w.heap.size 4 rfl (N := 16) rfl 53 _ _ rfl (wrap64 (2 ^ min l1.length 64)) rfl rfl Try.underlying53 (.bool false) 1 spec_wiTells.info4 rfl (by decide) (by omega) false (ok := fun _ => True) (okp := fun _ => True) rfl (fun _ hk => hk) trivial (by rw [HSH.out]; omega) ?hl (by repeat (first | exact Below.refl _ _ | apply pw_below_drewN | apply below_drew1)) (Nat.le_refl _) ?_; (case hl => have := HP.out; rw [HSH.out]; simp only [Int.toNat_natCast]; omega); intro v1 w1 ho1 hb1 hg_ hnew_; clear hg_; rw [HSH.out, Int.toNat_natCast] at ho1; have O1 := Aside0.mk ho1; have B1 := Aside0.mk hb1; have NE1 := Aside0.mk hnew_; clear ho1 hb1 hnew_)
  refine (spec_wiAll.calls k a0 a2 all _ HALL.out).mono ?_
  rintro e w2 ⟨v2, rfl, hv, hb⟩
  have O2 := Aside0.mk (Kd.R_below O1.out (below_step (by repeat (first | exact Below.refl _ _ | apply pw_below_drewN | apply below_drew1)) hb))
  have B2 := Aside0.mk (below_step (by repeat (first | exact B1.out | apply pw_below_drewN | apply below_drew1)) hb)
  have N2 := Aside0.mk (Kd.N_mono hv (ok' := fun k => w1.heap.size ≤ k) (fun k hk => hk))
  have LT1 : ∀ kk, v1.ownBlock = some kk → kk < w1.heap.size := Kd.R_lt O1.out
  have hMp : 0 < M := by rw [HM.out]; exact Nat.pow_pos (by decide)
  obtain ⟨g, cc, ev, gb, gl, cl, HG⟩ := Kd.R_form O2.out (by rw [List.length_replicate]; exact hMp)
  rw [List.length_replicate] at ev
  subst ev
  have GB := Aside0.mk gb
  have GL := Aside0.mk (show g < w1.heap.size from LT1 g (by simp [Value.ownBlock]))
  obtain ⟨A2, c2, rfl, hc2, hC2⟩ := Kd.N_reads N2.out
  have L0 : Aside0 ((List.replicate M false).length = M) := ⟨List.length_replicate⟩
  clear hv hb O1 LT1 hMp gb gl HG hc2 hC2 NE1 B1
  go_wp2_with fail
  go_loopg [21] k (fun gg v21 wr => ∃ (i : Nat) (seen : List Bool), v21 = .int .i64 (i : Int) ∧ Aside0 (spec_wiTells.l0 gg l1 all seen i = some r) ∧ Aside0 (seen.length = M) ∧ Aside0 (Kd.R Kd.bool 4 wr w.heap.size (fun _ => True) (.slice (some ⟨g, 0, none⟩) M cc) seen) ∧ Aside0 (Kd.N (Kd.slice 3 (Kd.int .i64)) 32 wr w1.heap.size (fun k => w1.heap.size ≤ k) (.slice A2 all.length c2) all) ∧ Aside0 (Below w.heap.size w wr))
  case atStart => exact ⟨0, _, rfl, H, L0, O2, N2, B2⟩
  case round =>
    clear H L0 O2 N2 B2
    obtain ⟨i, seen, rfl, HA, SL, O, N, BW⟩ := hrel
    cases gk with
    | zero => exact absurd HA.out (by simp [spec_wiTells.l0])
    | succ k1 =>
      have H := HA.out
      clear HA
      simp only [spec_wiTells.l0] at H
      by_cases b0 : i < all.length
      · rw [if_pos b0] at H
        replace H := Option.bind_eq_some_iff.mp H
        obtain ⟨b, hb, H⟩ := H
        replace H := Option.bind_eq_some_iff.mp H
        obtain ⟨s, hs, H⟩ := H
        by_cases b1 : s.size ≤ 40
        case neg => rw [if_neg b1] at H; cases H
        rw [if_pos b1] at H
        by_cases b2 : spec_wiTells.p_val s s.size < seen.length
        case neg => rw [if_neg b2] at H; cases H
        rw [if_pos b2] at H
        have hup : wrap64 ((i : Int) + 1) = ((i + 1 : Nat) : Int) := by have := HAL.out; unfold wrap64; omega
        obtain ⟨ad, A3, c3, e3, hx, hl, hi⟩ := at_L1 (Kd.N_reads' N.out).2.2 (i : Int) (by omega) (by omega)
        cases e3
        have e4 : rd_L1 all (i : Int) = all.getD i [] := by unfold rd_L1; simp
        rw [e4] at hx hl hi
        obtain ⟨row, erow⟩ : ∃ q, q = all.getD i [] := ⟨_, rfl⟩
        rw [← erow] at hx hl hi hb
        clear erow
        have p0 : (i < all.length) = True := eq_true b0
        have p1 : ((i : Int) < (all.length : Int)) = True := eq_true (by omega)
        have HB := Aside0.mk hb
        have HS := Aside0.mk hs
        have HB1 := Aside0.mk b1
        have HB2 := Aside0.mk b2
        have H' := Aside0.mk H
        have HUP := Aside0.mk hup
        have HI := Aside0.mk hi
        have HL := Aside0.mk hl
        have b0b : decide (i < all.length) = true := decide_eq_true b0
        have b0c : decide ((i : Int) < (all.length : Int)) = true := decide_eq_true (by omega)
        have B0 := Aside0.mk b0
        rw [Int.toNat_natCast] at hx
        clear H hb hs b1 b2 hup hi hl e4 b0
        go_wp2_with fail
        refine (spec_wiBits.calls k1 A3 c3 _ b _ (Kd.C_below HI.out (by repeat (first | exact Below.refl _ _ | apply pw_below_drewN | apply below_drew1))) HL.out HB.out).mono ?_
        rintro e w3 ⟨rfl, ⟨nd, rfl⟩⟩
        go_wp2_with fail
        refine (spec_wiResults.calls k1 A1 c1 l1 b s _ (Kd.C_below HR.out (by repeat (first | exact BW.out | apply pw_below_drewN | apply below_drew1))) HC.out HS.out).mono ?_
        rintro e w4 ⟨rfl, ⟨nd4, rfl⟩⟩
        have B4 := Aside0.mk (show Below wr.heap.size wr ((wr.drewN nd).drewN nd4) by repeat (first | exact Below.refl _ _ | apply pw_below_drewN))
        have O4 := Aside0.mk (Kd.R_below O.out B4.out)
        have N4 := Aside0.mk (Kd.N_below N.out B4.out)
        have BW4 := Aside0.mk (below_step BW.out B4.out)
        generalize (wr.drewN nd).drewN nd4 = w4 at O4 N4 BW4 ⊢
        clear O N BW B4 hx HI HL HB HS
        have kb := fun W => print_bytes (P := Try.prog) 9 55 5 Try.underlying9 Try.underlying55 Try.underlying5 s W
        go_wp2_with fail
        have C5 : Aside0 (∀ j : Nat, j < s.size → (Lib.bytesWorld w4 5 s).cell? ⟨w4.heap.size, j, none⟩ = some (.int .u8 (rd (bytesOf s) (j : Int)))) := ⟨fun j hj => by
          obtain ⟨ad, e1, e2⟩ := (bytes_reads w4 5 s (by have := HB1.out; omega)).at_ (j : Int) (by omega) (by omega)
          injection e1 with e1
          subst e1
          rw [Int.toNat_natCast, add_plain] at e2
          exact e2⟩
        have B5 := Aside0.mk (bytes_below (Below.refl w4.heap.size w4) (Nat.le_refl _) 5 s)
        have O5 := Aside0.mk (Kd.R_below O4.out B5.out)
        have N5 := Aside0.mk (Kd.N_below N4.out B5.out)
        have BW5 := Aside0.mk (below_step BW4.out B5.out)
        have L5 : Aside0 (w4.heap.size < (Lib.bytesWorld w4 5 s).heap.size) := ⟨by rw [Lib.bytesWorld_size]; omega⟩
        generalize w4.heap.size = g5 at C5 L5 ⊢
        generalize Lib.bytesWorld w4 5 s = w5 at C5 O5 N5 BW5 L5 ⊢
        clear kb O4 N4 BW4 B5
        go_loopg [10, 31] s.size (fun g2 v10 v31 wi => ∃ x : Nat, v31 = .int .i64 (x : Int) ∧ v10 = .int .i64 ((spec_wiTells.p_val s x : Nat) : Int) ∧ Aside0 (x ≤ s.size ∧ s.size - x ≤ g2) ∧ Aside0 (Below w5.heap.size w5 wi))
        case atStart => exact ⟨0, rfl, rfl, ⟨Nat.zero_le _, Nat.le_refl _⟩, ⟨Below.refl _ _⟩⟩
        case round =>
          obtain ⟨x, rfl, rfl, HX, BI⟩ := hrel
          by_cases hlt : x < s.size
          · have hx := C5.out x hlt
            replace hx := (BI.out.cell (World.block_lt_of_cell? _ _ hx)).trans hx
            have hvs := spec_wiTells.val_succ s x
            have hvl := spec_wiTells.val_lt s x
            have h49 := HB1.out
            have hpw : (2 : Nat) ^ x ≤ 2 ^ 40 := Nat.pow_le_pow_right (by decide) (by omega)
            obtain ⟨p, hp⟩ : ∃ p, p = spec_wiTells.p_val s x := ⟨_, rfl⟩
            obtain ⟨pw, hpw2⟩ : ∃ pw : Nat, pw = 2 ^ x := ⟨_, rfl⟩
            rw [← hp, ← hpw2] at hvs
            rw [← hp, ← hpw2] at hvl
            rw [← hpw2] at hpw
            have s1 : wrap64 (2 ^ min x 64) = (pw : Int) := by
              rw [Nat.min_eq_left (by omega), show ((2 : Int) ^ x) = ((2 ^ x : Nat) : Int) by simp, ← hpw2]
              unfold wrap64
              omega
            have s2 : wrap64 ((p : Int) + (pw : Int)) = ((p + pw : Nat) : Int) := by unfold wrap64; omega
            have S1 := Aside0.mk s1
            have S2 := Aside0.mk s2
            have VS := Aside0.mk hvs
            have HUX := Aside0.mk (show wrap64 ((x : Int) + 1) = ((x + 1 : Nat) : Int) by unfold wrap64; omega)
            rw [← hp]
            have d1 : decide ((x : Int) < (s.size : Int)) = true := decide_eq_true (by omega)
            have d0 : decide (x < s.size) = true := decide_eq_true hlt
            have q0 : (x < s.size) = True := eq_true hlt
            have q1 : ((x : Int) < (s.size : Int)) = True := eq_true (by omega)
            have q2 : decide (0 ≤ (x : Int)) = true := decide_eq_true (by omega)
            have HLT := Aside0.mk hlt
            generalize rd (bytesOf s) (x : Int) = ch at hx VS
            clear hvs hvl h49 hpw hp hpw2 s1 s2 hlt
            by_cases hch : ch = 49
            · subst hch
              go_wp2_with fail
              go_roundg (s.size - (x + 1))
              case measure => have := HX.out; have := HLT.out; omega
              case rel =>
                refine ⟨x + 1, by rw [HUX.out], ?_, ⟨by have := HLT.out; omega, by omega⟩, BI⟩
                rw [S1.out, S2.out, VS.out]; simp
            · have e1 : decide (ch = 49) = false := decide_eq_false hch
              go_wp2_with fail
              go_roundg (s.size - (x + 1))
              case measure => have := HX.out; have := HLT.out; omega
              case rel =>
                refine ⟨x + 1, by rw [HUX.out], ?_, ⟨by have := HLT.out; omega, by omega⟩, BI⟩
                rw [VS.out, if_neg hch, Nat.add_zero]
          · have d1 : decide ((x : Int) < (s.size : Int)) = false := decide_eq_false (by omega)
            have d0 : decide (x < s.size) = false := decide_eq_false hlt
            have e : x = s.size := by have := HX.out; omega
            subst e
            have O6 := Aside0.mk (Kd.R_below O5.out BI.out)
            have N6 := Aside0.mk (Kd.N_below N5.out BI.out)
            have BW6 := Aside0.mk (below_step BW5.out BI.out)
            clear O5 N5 BW5 BI hlt
            have hv2 := HB2.out
            obtain ⟨n, hn⟩ : ∃ n, n = spec_wiTells.p_val s s.size := ⟨_, rfl⟩
            rw [← hn] at hv2 H' ⊢
            have sl := SL.out
            have p3 : 0 ≤ (n : Int) := by omega
            have p4 : (n : Int) < (M : Int) := by omega
            obtain ⟨hx0, hf0⟩ := Kd.R_celln false O6.out (n : Int) p3 p4
            rw [Int.toNat_natCast] at hx0 hf0
            have er : rdOf false seen (n : Int) = seen.getD n false := by unfold rdOf; simp
            rw [er] at hx0
            have p5 : (n < M) = True := eq_true (by omega)
            have p6 : ((n : Int) < (M : Int)) = True := eq_true p4
            have HP10 := Kd.R_putg O6.out (n : Int) true
            rw [Int.toNat_natCast] at HP10
            have GG := GL.out
            clear hn er sl hv2
            replace p3 := eq_true p3
            generalize seen.getD n false = sb at hx0 H'
            cases sb with
            | true =>
              have h := H'.out
              rw [if_pos rfl] at h
              obtain rfl := Option.some.inj h
              clear h H'
              clear HP10
              go_wp2
              go_ret
              exact ⟨rfl, BW6.out⟩
            | false =>
              have h := H'.out
              rw [if_neg (by decide)] at h
              have H7 := Aside0.mk h
              clear h H'
              go_wp2_with ((with_reducible refine gate_store (t := 4) (p := 49) rfl ?_); refine store_event (t := 4) (p := 49) (v := ?vo_w11) (w1 := (wr.setCell ⟨g, n, none⟩ (.bool true))) ?hg ?ho ?hn ?hr ?_; (case ho => rfl); (case hg => rfl); (case hn => rfl); (case hr => first | (go_simp; done) | (go_simp; rfl)); intro w11 hw; have hg : wr.grownBy w11 (some g) := (by rw [hw]; exact HP10.2); have O7 := Aside0.mk (show Kd.R Kd.bool 4 w11 w.heap.size (fun _ => True) (.slice (some ⟨g, 0, none⟩) M cc) (seen.set n true) by rw [hw]; exact HP10.1); have N7 := Aside0.mk (Kd.N_grown N6.out hg (fun kk hk e => by injection e with e; rw [e] at hk; exact Nat.lt_irrefl _ (Nat.lt_of_lt_of_le GG hk))); have BW7 := Aside0.mk (show Below w.heap.size w w11 by rw [hw]; exact below_set BW6.out GB.out); clear HP10 O6 N6 BW6 hg hw)
              go_roundg k1
              case measure => omega
              case rel => exact ⟨i + 1, _, by rw [HUP.out], H7, ⟨by rw [List.length_set]; exact SL.out⟩, O7, N7, BW7⟩
      · rw [if_neg b0] at H
        have b0b : decide (i < all.length) = false := decide_eq_false b0
        have b0c : decide ((i : Int) < (all.length : Int)) = false := decide_eq_false (by omega)
        obtain rfl := Option.some.inj H
        clear b0 H
        go_wp2
        go_ret
        exact ⟨rfl, BW.out⟩


end Go.Proofs.Ytbmhgmnlkeebcab.PFnExactTellsUpTo
