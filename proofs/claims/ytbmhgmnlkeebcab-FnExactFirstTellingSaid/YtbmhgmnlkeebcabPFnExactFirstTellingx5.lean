-- Written by a program of this claim, over the kit's print: the functions that a law reaches, their plain forms and the walks.
import Derived.Test.YtbmhgmnlkeebcabPFnExactFirstTellingx0
import Derived.Test.YtbmhgmnlkeebcabPFnExactFirstTellingx3
import Derived.Test.YtbmhgmnlkeebcabPFnExactFirstTellingx4
namespace Go.Proofs.Ytbmhgmnlkeebcab.PFnExactFirstTelling
open Go.RowKit Go.Proofs.YtbmhgmnlkeebcabW.PrintWords Go.Proofs.YtbmhgmnlkeebcabW.PrintLast Go.Proofs.YtbmhgmnlkeebcabW.PrintMore
attribute [local go_sem] max2_int min2_int max_two min_two max_three min_three max_four min_four   -- for this text's walks alone
set_option linter.unusedVariables false
set_option linter.unusedSimpArgs false

/-! ### impl_sizeOfEach: function 73 -/
mutual
def impl_sizeOfEach.l0 : Nat → List Int → List (List Int) → Int → Int → Option (List Int)
  | 0, _, _, _, _ => none
  | k + 1, x3, x12, x13, x14 => if x14 < x13 then (if 0 ≤ x14 then (if x14 < (x12.length : Int) then (impl_sizeOfEach.l1 k x3 (rd_L1 x12 x14) x12 x13 x14 (rd_L1 x12 x14) ((rd_L1 x12 x14).length : Int) 0) else (none)) else (none)) else (some x3)
def impl_sizeOfEach.l1 : Nat → List Int → List Int → List (List Int) → Int → Int → List Int → Int → Int → Option (List Int)
  | 0, _, _, _, _, _, _, _, _ => none
  | k + 1, x3, x5, x12, x13, x14, x18, x19, x20 => if x20 < x19 then (if 0 ≤ x20 then (if x20 < (x18.length : Int) then (if 0 ≤ (rd x18 x20) then (if (rd x18 x20) < (x3.length : Int) then (impl_sizeOfEach.l1 k (x3.set ((rd x18 x20) : Int).toNat (x5.length : Int)) x5 x12 x13 x14 x18 x19 (wrap64 (x20 + 1))) else (none)) else (none)) else (none)) else (none)) else (impl_sizeOfEach.l0 k x3 x12 x13 (wrap64 (x14 + 1)))
end
def impl_sizeOfEach.f (k : Nat) (l0 : List Int) : Option (List Int) := if 0 ≤ (l0.length : Int) then (if ((l0.length : Int) : Int).toNat ≤ 35184372088832 then ((impl_groupsOf.f k l0).bind fun t202 => (impl_sizeOfEach.l0 k (List.replicate ((l0.length : Int) : Int).toNat 0) t202 (t202.length : Int) 0)) else (none)) else (none)
theorem impl_sizeOfEach.mono_l : ∀ k, (∀ y0 y1 y2 y3, LeO (impl_sizeOfEach.l0 k y0 y1 y2 y3) (impl_sizeOfEach.l0 (k + 1) y0 y1 y2 y3)) ∧ (∀ y0 y1 y2 y3 y4 y5 y6 y7, LeO (impl_sizeOfEach.l1 k y0 y1 y2 y3 y4 y5 y6 y7) (impl_sizeOfEach.l1 (k + 1) y0 y1 y2 y3 y4 y5 y6 y7))
  | 0 => ⟨fun _ _ _ _ r h => by simp [impl_sizeOfEach.l0] at h, fun _ _ _ _ _ _ _ _ r h => by simp [impl_sizeOfEach.l1] at h⟩
  | k + 1 => by
    obtain ⟨ih0, ih1⟩ := impl_sizeOfEach.mono_l k
    refine ⟨?_, ?_⟩
    · intro y0 y1 y2 y3
      unfold impl_sizeOfEach.l0
      repeat' first
      | (with_reducible exact ih0 _ _ _ _)
      | (with_reducible exact ih1 _ _ _ _ _ _ _ _)
      | (with_reducible exact impl_groupsOf.mono _ _)
      | (with_reducible exact LeO.refl _)
      | (with_reducible exact LeO.none _)
      | (with_reducible refine LeO.ite ?_ ?_)
      | (with_reducible refine LeO.bind ?_ (fun _ => ?_))
      | exact ih0 _ _ _ _
      | exact ih1 _ _ _ _ _ _ _ _
      | exact impl_groupsOf.mono _ _
      | exact LeO.none _
      | refine LeO.ite ?_ ?_
      | refine LeO.bind ?_ (fun _ => ?_)
    · intro y0 y1 y2 y3 y4 y5 y6 y7
      unfold impl_sizeOfEach.l1
      repeat' first
      | (with_reducible exact ih0 _ _ _ _)
      | (with_reducible exact ih1 _ _ _ _ _ _ _ _)
      | (with_reducible exact impl_groupsOf.mono _ _)
      | (with_reducible exact LeO.refl _)
      | (with_reducible exact LeO.none _)
      | (with_reducible refine LeO.ite ?_ ?_)
      | (with_reducible refine LeO.bind ?_ (fun _ => ?_))
      | exact ih0 _ _ _ _
      | exact ih1 _ _ _ _ _ _ _ _
      | exact impl_groupsOf.mono _ _
      | exact LeO.none _
      | refine LeO.ite ?_ ?_
      | refine LeO.bind ?_ (fun _ => ?_)
theorem impl_sizeOfEach.mono : ∀ a0 k, LeO (impl_sizeOfEach.f k a0) (impl_sizeOfEach.f (k + 1) a0) := by
  intro a0 k
  obtain ⟨ih0, ih1⟩ := impl_sizeOfEach.mono_l k
  unfold impl_sizeOfEach.f
  repeat' first
      | (with_reducible exact ih0 _ _ _ _)
      | (with_reducible exact ih1 _ _ _ _ _ _ _ _)
      | (with_reducible exact impl_groupsOf.mono _ _)
      | (with_reducible exact LeO.refl _)
      | (with_reducible exact LeO.none _)
      | (with_reducible refine LeO.ite ?_ ?_)
      | (with_reducible refine LeO.bind ?_ (fun _ => ?_))
      | exact ih0 _ _ _ _
      | exact ih1 _ _ _ _ _ _ _ _
      | exact impl_groupsOf.mono _ _
      | exact LeO.none _
      | refine LeO.ite ?_ ?_
      | refine LeO.bind ?_ (fun _ => ?_)
set_option maxHeartbeats 8000000 in
set_option maxRecDepth 100000 in
theorem impl_sizeOfEach.calls (k : Nat) (A0 : Option Addr) (c0 : Nat) (l0 : List Int) (r : List Int) (w : World) (hr0 : Kd.C (Kd.int .i64) w A0 l0.length l0) (hc0 : l0.length ≤ c0) (h : impl_sizeOfEach.f k l0 = some r) :
    Calls Try.prog 73 #[.slice A0 l0.length c0] w fun e w' => ∃ v0_ : Value, e = .returned (v0_) ∧ Kd.R (Kd.int .i64) 3 w' w.heap.size (fun _ => True) v0_ r ∧ Below w.heap.size w w' := by
  have HR0 := Aside0.mk hr0
  have HC0 := Aside0.mk hc0
  clear hr0 hc0
  have HB := Aside0.mk (Below.refl w.heap.size w)
  have H : (if 0 ≤ (l0.length : Int) then (if ((l0.length : Int) : Int).toNat ≤ 35184372088832 then ((impl_groupsOf.f k l0).bind fun t202 => (impl_sizeOfEach.l0 k (List.replicate ((l0.length : Int) : Int).toNat 0) t202 (t202.length : Int) 0)) else (none)) else (none)) = some r := h
  clear h
  by_cases c2 : 0 ≤ (l0.length : Int)
  · rw [if_pos c2] at H
    have c2b0 := eq_true c2
    have c2b1 : decide (0 ≤ (l0.length : Int)) = true := decide_eq_true c2
    clear c2
    by_cases c3 : ((l0.length : Int) : Int).toNat ≤ 35184372088832
    · rw [if_pos c3] at H
      have c3b0 := eq_true c3
      have c3b1 : decide (((l0.length : Int) : Int).toNat ≤ 35184372088832) = true := decide_eq_true c3
      clear c3
      obtain ⟨y199, hy199⟩ : ∃ y_ : List Int, y_ = (List.replicate ((l0.length : Int) : Int).toNat 0) := ⟨_, rfl⟩
      replace H : ((impl_groupsOf.f k l0).bind fun t202 => (impl_sizeOfEach.l0 k y199 t202 (t202.length : Int) 0)) = some r := by first | (rw [hy199]; with_reducible exact H) | (have H2_ := (Option.bind_some _ _).symm.trans H; rw [hy199]; with_reducible exact H2_) | (have H2_ := (Option.bind_some _ _).symm.trans H; with_reducible exact H2_) | with_reducible exact H | (rw [hy199]; exact H) | exact H
      have Ny199 := Aside0.mk hy199
      clear hy199
      replace H := Option.bind_eq_some_iff.mp H
      obtain ⟨t202, A40, H⟩ := H
      replace H : (impl_sizeOfEach.l0 k y199 t202 (t202.length : Int) 0) = some r := H
      have A4 := Aside0.mk A40
      clear A40
      have H' := Aside0.mk H
      clear H
      go_enter Try.func73, Try.ntmps73
      go_wp2_with (first | ((with_reducible refine gate_dst (N := 10) rfl ?_); refine Kd.R_make (Kd.int .i64) _ 3 rfl (N := 10) rfl 32 _ _ rfl (l0.length : Int) rfl rfl Try.underlying32 (.int .i64 0) 8 info3 rfl (by decide) (by omega) 0 (ok := fun _ => True) (okp := fun _ => True) rfl (fun _ hk => hk) trivial (of_decide_eq_true (by first | (with_reducible assumption) | assumption)) (Nat.le_trans (Nat.mul_le_mul_right _ (of_decide_eq_true (by first | (with_reducible assumption) | assumption) : (l0.length : Int).toNat ≤ 35184372088832)) (by omega)) (Below.refl _ _) (Nat.le_refl _) ?_; intro v200 w5 ho6 hb hg_ hnew_; clear hg_ hnew_; (first | rw [← Ny199.out] at ho6 | (simp only [Int.reduceToNat] at ho6; rw [← Ny199.out] at ho6)); have n0_ := Aside0.mk (Kd.R_lower ho6 (below_size (by repeat (first | (with_reducible first | exact HB.out | apply below_alloc | apply pw_below_drewN | apply below_drew1) | exact HB.out)))); have n1_ := Aside0.mk (below_step (by repeat (first | (with_reducible first | exact HB.out | apply below_alloc | apply pw_below_drewN | apply below_drew1) | exact HB.out)) hb); clear HB; have HO201 := n0_; have HB := n1_; clear n0_ n1_; clear hb ho6) | ((with_reducible refine gate_callee (f := 84) rfl ?_); refine goesL_ (some 12) rfl rfl Try.func84 (by kernel_rfl) rfl #[.slice A0 l0.length c0] rfl (by (try simp only [List.map_toArray, List.map_cons, List.map_nil]); first | done | rfl | (simp only [List.length_drop, List.length_take]; rfl) | (simp; done) | (refine congrArg Value.bool ?_; simp; done) | (refine congrArg (fun z_ => #[Value.bool z_]) ?_; simp; done)) ?_; (with_reducible refine (impl_groupsOf.calls k _ _ l0 t202 _ ?side1 ?side2 A4.out).mono ?_); (case side1 => repeat (first | exact (Kd.C_below HR0.out HB.out) | (with_reducible refine Kd.C_alloc ?_ _) | (with_reducible refine Kd.C_drewN ?_ _) | (with_reducible refine Kd.C_drew ?_))); (case side2 => exact HC0.out); rintro e w7 ⟨v203, rfl, ho0, hb⟩; refine ⟨_, rfl, ?_⟩; have n0_ := Aside0.mk (Kd.R_below (by (with_reducible repeat (first | apply Kd.R_alloc | apply Kd.R_drewN | apply Kd.R_drew)); exact HO201.out) hb); have n1_ := Aside0.mk (Kd.S_lower (Kd.S_new' ho0 (Kd.R_lt (by (with_reducible repeat (first | apply Kd.R_alloc | apply Kd.R_drewN | apply Kd.R_drew)); exact HO201.out))) (below_size (by repeat (first | (with_reducible first | exact HB.out | apply below_alloc | apply pw_below_drewN | apply below_drew1) | exact HB.out)))); have n2_ := Aside0.mk (below_step (by repeat (first | (with_reducible first | exact HB.out | apply below_alloc | apply pw_below_drewN | apply below_drew1) | exact HB.out)) hb); clear HO201; clear HB; have HO201 := n0_; have HO204 := n1_; have HB := n2_; clear n0_ n1_ n2_; (try clear hb); (try clear hb2); (try clear hk); (try clear hi); (try clear ho0); obtain ⟨Ao8, co8, eo8⟩ := Kd.S_slice HO204.out; subst eo8))
      go_loopg [14] k (fun kq v14 w' => ∃ (x3_1 : List Int) (x14_1 : Int), v14 = .int .i64 x14_1 ∧ Aside0 (impl_sizeOfEach.l0 kq x3_1 t202 (t202.length : Int) x14_1 = some r) ∧ Aside0 (kq ≤ k) ∧ Aside0 (Kd.R (Kd.int .i64) 3 w' w.heap.size (fun _ => True) v200 x3_1) ∧ Aside0 (Kd.S (Kd.slice 3 (Kd.int .i64)) 32 w' w.heap.size (fun k_ => some k_ ≠ (v200 : Value).ownBlock) (.slice Ao8 t202.length co8) t202) ∧ Aside0 (Below w.heap.size w w'))
      case atStart => exact ⟨(y199), (0), (by first | rfl | (simp; done) | (simp [*]; done)), H', ⟨Nat.le_refl _⟩, ⟨by (with_reducible repeat (first | apply Kd.R_alloc | apply Kd.R_drewN | apply Kd.R_drew)); exact HO201.out⟩, ⟨by (with_reducible repeat (first | apply Kd.S_alloc | apply Kd.S_drewN | apply Kd.S_drew)); exact Kd.S_mono HO204.out (fun _ hk => hk.2)⟩, ⟨by repeat (first | (with_reducible first | exact HB.out | apply below_alloc | apply pw_below_drewN | apply below_drew1) | exact HB.out)⟩⟩
      case round =>
        clear H'
        try clear c2
        try clear c2b0
        try clear c2b1
        try clear p2
        try clear c3
        try clear c3b0
        try clear c3b1
        try clear c7
        try clear c8
        obtain ⟨x3_1, x14_1, rfl, HA, HK1, HO_3, HO_12, HB⟩ := hrel
        cases gk with
        | zero => exact absurd HA.out (by simp [impl_sizeOfEach.l0])
        | succ k1 =>
          have H := HA.out
          clear HA
          simp only [impl_sizeOfEach.l0] at H
          by_cases c9 : x14_1 < (t202.length : Int)
          · rw [if_pos c9] at H
            have c9b0 : decide (x14_1 < (t202.length : Int)) = true := decide_eq_true c9
            clear c9
            by_cases c10 : 0 ≤ x14_1
            · rw [if_pos c10] at H
              have c10b0 : decide (0 ≤ x14_1) = true := decide_eq_true c10
              clear c10
              by_cases c11 : x14_1 < (t202.length : Int)
              · rw [if_pos c11] at H
                have c11b0 : decide (x14_1 < (t202.length : Int)) = true := decide_eq_true c11
                clear c11
                have H' := Aside0.mk H
                clear H
                have p205 : 0 ≤ (x14_1 : Int) := of_decide_eq_true (by first | (with_reducible assumption) | assumption)
                have q205 : x14_1 < (t202.length : Int) := of_decide_eq_true (by first | (with_reducible assumption) | assumption)
                obtain ⟨ad205, A205_0, c205_0, e205, hx205_0, hl205_0, hi205_0⟩ := at_L1 (Kd.S_reads' HO_12.out).2.2 x14_1 p205 q205
                cases e205
                obtain ⟨ce205, hce205, hMe205, hcc205⟩ := Kd.S_get HO_12.out [] x14_1 p205 (by first | exact q205 | exact of_decide_eq_true (by first | (with_reducible assumption) | assumption) | (have e_ := (Kd.S_reads' HO_12.out).1; omega))
                obtain ⟨ve205_0, rfl, ge205_0⟩ := hMe205
                have hv205_0 := hcc205 0 _ rfl
                rw [Nat.add_zero, show ((Kd.slice 3 (Kd.int .i64))).sz = 1 from rfl, Nat.mul_one] at hv205_0
                replace hv205_0 := Option.some.inj (hv205_0.symm.trans hx205_0)
                rw [hv205_0] at ge205_0
                have HL205_0 := Aside0.mk (show Kd.R (Kd.int .i64) 3 _ _ _ _ (rd_L1 t202 x14_1) from ge205_0)
                clear hv205_0 ge205_0
                clear hcc205 hce205
                have HR205_0 := Aside0.mk hi205_0
                have HC205_0 := Aside0.mk hl205_0
                clear hi205_0 hl205_0
                replace p205 := eq_true p205
                replace q205 := eq_true q205
                go_wp2
                go_loopg [20] k1 (fun kq v20 w' => ∃ (x3_2 : List Int) (x20_2 : Int), v20 = .int .i64 x20_2 ∧ Aside0 (impl_sizeOfEach.l1 kq x3_2 (rd_L1 t202 x14_1) t202 (t202.length : Int) x14_1 (rd_L1 t202 x14_1) ((rd_L1 t202 x14_1).length : Int) x20_2 = some r) ∧ Aside0 (kq ≤ k1) ∧ Aside0 (Kd.R (Kd.int .i64) 3 w' w.heap.size (fun _ => True) v200 x3_2) ∧ Aside0 (Kd.S (Kd.slice 3 (Kd.int .i64)) 32 w' w.heap.size (fun k_ => some k_ ≠ (v200 : Value).ownBlock) (.slice (some ad205) t202.length co8) t202) ∧ Aside0 (Kd.R (Kd.int .i64) 3 w' w.heap.size (fun k_ => some k_ ≠ (v200 : Value).ownBlock) (.slice A205_0 (rd_L1 t202 x14_1).length c205_0) (rd_L1 t202 x14_1)) ∧ Aside0 (Below w.heap.size w w'))
                case atStart => exact ⟨(x3_1), (0), (by first | rfl | (simp; done) | (simp [*]; done)), H', ⟨Nat.le_refl _⟩, ⟨by (with_reducible repeat (first | apply Kd.R_alloc | apply Kd.R_drewN | apply Kd.R_drew)); exact HO_3.out⟩, ⟨by (with_reducible repeat (first | apply Kd.S_alloc | apply Kd.S_drewN | apply Kd.S_drew)); exact HO_12.out⟩, ⟨Kd.R_mono HL205_0.out (fun _ hk => by first | exact hk.1.1 | exact hk.1.2 | exact hk.1 | exact hk.2)⟩, ⟨by repeat (first | (with_reducible first | exact HB.out | apply below_alloc | apply pw_below_drewN | apply below_drew1) | exact HB.out)⟩⟩
                case round =>
                  clear H'
                  try clear c1
                  try clear c2
                  try clear c2b0
                  try clear c2b1
                  try clear p2
                  try clear q2
                  try clear hx2
                  try clear c3
                  try clear c3b0
                  try clear c3b1
                  try clear c7
                  try clear c8
                  try clear c9
                  try clear c9b0
                  try clear c10
                  try clear c10b0
                  try clear c11
                  try clear c11b0
                  try clear hx205_0
                  try clear p2
                  try clear p205
                  try clear q205
                  obtain ⟨x3_2, x20_2, rfl, HA, HK2, HO_3, HO_12, HE205, HB⟩ := hrel
                  cases gk with
                  | zero => exact absurd HA.out (by simp [impl_sizeOfEach.l1])
                  | succ k2 =>
                    have H := HA.out
                    clear HA
                    simp only [impl_sizeOfEach.l1] at H
                    by_cases c12 : x20_2 < ((rd_L1 t202 x14_1).length : Int)
                    · rw [if_pos c12] at H
                      have c12b0 : decide (x20_2 < ((rd_L1 t202 x14_1).length : Int)) = true := decide_eq_true c12
                      clear c12
                      by_cases c13 : 0 ≤ x20_2
                      · rw [if_pos c13] at H
                        have c13b0 : decide (0 ≤ x20_2) = true := decide_eq_true c13
                        clear c13
                        by_cases c14 : x20_2 < ((rd_L1 t202 x14_1).length : Int)
                        · rw [if_pos c14] at H
                          have c14b0 : decide (x20_2 < ((rd_L1 t202 x14_1).length : Int)) = true := decide_eq_true c14
                          clear c14
                          by_cases c15 : 0 ≤ (rd (rd_L1 t202 x14_1) x20_2)
                          · rw [if_pos c15] at H
                            have c15b0 : decide (0 ≤ (rd (rd_L1 t202 x14_1) x20_2)) = true := decide_eq_true c15
                            clear c15
                            by_cases c16 : (rd (rd_L1 t202 x14_1) x20_2) < (x3_2.length : Int)
                            · rw [if_pos c16] at H
                              have c16b0 : decide ((rd (rd_L1 t202 x14_1) x20_2) < (x3_2.length : Int)) = true := decide_eq_true c16
                              clear c16
                              obtain ⟨y207, hy207⟩ : ∃ y_ : List Int, y_ = (x3_2.set ((rd (rd_L1 t202 x14_1) x20_2) : Int).toNat ((rd_L1 t202 x14_1).length : Int)) := ⟨_, rfl⟩
                              replace H : (impl_sizeOfEach.l1 k2 y207 (rd_L1 t202 x14_1) t202 (t202.length : Int) x14_1 (rd_L1 t202 x14_1) ((rd_L1 t202 x14_1).length : Int) (wrap64 (x20_2 + 1))) = some r := by first | (rw [hy207]; with_reducible exact H) | (have H2_ := (Option.bind_some _ _).symm.trans H; rw [hy207]; with_reducible exact H2_) | (have H2_ := (Option.bind_some _ _).symm.trans H; with_reducible exact H2_) | with_reducible exact H | (rw [hy207]; exact H) | exact H
                              have Ny207 := Aside0.mk hy207
                              clear hy207
                              have H' := Aside0.mk H
                              clear H
                              have p206 : 0 ≤ (x20_2 : Int) := of_decide_eq_true (by first | (with_reducible assumption) | assumption)
                              have q206 : x20_2 < ((rd_L1 t202 x14_1).length : Int) := of_decide_eq_true (by first | (with_reducible assumption) | assumption)
                              obtain ⟨ad206, e206, hx206_0⟩ := Kd.at_int (Kd.R_reads' HE205.out).2.2 x20_2 p206 q206
                              cases e206
                              replace p206 := eq_true p206
                              replace q206 := eq_true q206
                              have p17 : 0 ≤ ((rd (rd_L1 t202 x14_1) x20_2) : Int) := of_decide_eq_true (by first | (with_reducible assumption) | assumption)
                              have q17 : ((rd (rd_L1 t202 x14_1) x20_2) : Int) < ((x3_2.length : Int) : Int) := of_decide_eq_true (by first | (with_reducible assumption) | assumption)
                              obtain ⟨go17, co17, eo17, gb17, gl17, cl17, HG17⟩ := Kd.R_form HO_3.out (by omega)
                              (first | cases eo17 | (injection eo17 with ea_ en_ ec_; (first | subst ea_ | (injection ea_ with ea_; subst ea_)); subst ec_; clear en_))
                              have GB17 := Aside0.mk gb17
                              have GG17 := Aside0.mk HG17
                              clear gb17 gl17 HG17
                              obtain ⟨hx17_0, hf17_0⟩ := Kd.R_celln 0 HO_3.out ((rd (rd_L1 t202 x14_1) x20_2) : Int) p17 q17
                              replace p17 := eq_true p17
                              replace q17 := eq_true q17
                              have HP18 := Kd.R_putg HO_3.out ((rd (rd_L1 t202 x14_1) x20_2) : Int) ((rd_L1 t202 x14_1).length : Int)
                              go_wp2_with (first | ((with_reducible refine gate_store (t := 3) (p := 28) rfl ?_); refine store_event (t := 3) (p := 28) (v := ?vo_w19) (w1 := (wr.setCell ⟨go17, ((rd (rd_L1 t202 x14_1) x20_2) : Int).toNat, none⟩ (.int .i64 ((rd_L1 t202 x14_1).length : Int)))) ?hg ?ho ?hn ?hr ?_; (case ho => rfl); (case hg => rfl); (case hn => rfl); (case hr => first | (go_simp; done) | (go_simp; rfl)); intro w19 hw; have hg : wr.grownBy w19 (some go17) := (by rw [hw]; exact HP18.2); have hp_ : Kd.R (Kd.int .i64) 3 w19 w.heap.size (fun _ => True) (.slice (some ⟨go17, 0, none⟩) x3_2.length co17) y207 := (by rw [hw, Ny207.out]; exact HP18.1); clear HP18; have n0_ := Aside0.mk (hp_); have n1_ := Aside0.mk (Kd.S_after (v := (.slice (some ⟨go17, 0, none⟩) x3_2.length co17)) (v1 := (.slice (some ⟨go17, 0, none⟩) x3_2.length co17)) (ok := (fun _ => True)) (by (with_reducible repeat (first | apply Kd.S_alloc | apply Kd.S_drewN | apply Kd.S_drew)); exact Kd.S_mono HO_12.out (fun _ hk => ⟨trivial, hk⟩)) hg (.inl rfl)); have n2_ := Aside0.mk ((by rw [hw]; exact below_set (HB.out) GB17.out : Below w.heap.size w w19)); have nE_ := Aside0.mk (Kd.R_grown HE205.out hg (fun k_ hk => by simpa [Value.ownBlock] using hk)); clear HE205; have HE205 := nE_; clear nE_; clear HO_3; clear HO_12; clear HB; have HO_3 := n0_; have HO_12 := n1_; have HB := n2_; clear n0_ n1_ n2_; clear hg hw hp_))
                              go_roundg k2
                              case measure => have := HK1.out; have := HK2.out; omega
                              case rel => exact ⟨(y207), (wrap64 (x20_2 + 1)), (by first | rfl | (simp; done) | (simp [*]; done)), H', ⟨by have := HK1.out; have := HK2.out; omega⟩, ⟨by (with_reducible repeat (first | apply Kd.R_alloc | apply Kd.R_drewN | apply Kd.R_drew)); exact HO_3.out⟩, ⟨by (with_reducible repeat (first | apply Kd.S_alloc | apply Kd.S_drewN | apply Kd.S_drew)); exact Kd.S_mono HO_12.out (fun _ hk => hk.2)⟩, ⟨HE205.out⟩, ⟨by repeat (first | (with_reducible first | exact HB.out | apply below_alloc | apply pw_below_drewN | apply below_drew1) | exact HB.out)⟩⟩
                            · rw [if_neg c16] at H
                              exact absurd H (by simp)
                          · rw [if_neg c15] at H
                            exact absurd H (by simp)
                        · rw [if_neg c14] at H
                          exact absurd H (by simp)
                      · rw [if_neg c13] at H
                        exact absurd H (by simp)
                    · rw [if_neg c12] at H
                      have c12b0 : decide (x20_2 < ((rd_L1 t202 x14_1).length : Int)) = false := decide_eq_false c12
                      clear c12
                      have H' := Aside0.mk H
                      clear H
                      go_wp2
                      go_roundg k2
                      case measure => have := HK1.out; have := HK2.out; omega
                      case rel => exact ⟨(x3_2), (wrap64 (x14_1 + 1)), (by first | rfl | (simp; done) | (simp [*]; done)), H', ⟨by have := HK1.out; have := HK2.out; omega⟩, ⟨by (with_reducible repeat (first | apply Kd.R_alloc | apply Kd.R_drewN | apply Kd.R_drew)); exact HO_3.out⟩, ⟨by (with_reducible repeat (first | apply Kd.S_alloc | apply Kd.S_drewN | apply Kd.S_drew)); exact HO_12.out⟩, ⟨by repeat (first | (with_reducible first | exact HB.out | apply below_alloc | apply pw_below_drewN | apply below_drew1) | exact HB.out)⟩⟩
              · rw [if_neg c11] at H
                exact absurd H (by simp)
            · rw [if_neg c10] at H
              exact absurd H (by simp)
          · rw [if_neg c9] at H
            have c9b0 : decide (x14_1 < (t202.length : Int)) = false := decide_eq_false c9
            clear c9
            obtain rfl := Option.some.inj H
            go_wp2
            go_ret
            exact ⟨_, by first | rfl | (simp [errW_none, errW_some] <;> rfl) | (simp [*, errW_none, errW_some] <;> rfl), by (with_reducible repeat (first | apply Kd.R_alloc | apply Kd.R_drewN | apply Kd.R_drew)); exact HO_3.out, by repeat (first | (with_reducible first | exact HB.out | apply below_alloc | apply pw_below_drewN | apply below_drew1) | exact HB.out)⟩
    · rw [if_neg c3] at H
      exact absurd H (by simp)
  · rw [if_neg c2] at H
    exact absurd H (by simp)

/-! ### impl_tells: function 51 -/
/-- The keys of labels. -/
def impl_tells.keys (s t : List Int) : List Int := List.zipWith (fun x y => x * 13 + y) s t
def impl_tells.f (k : Nat) (l0 l1 : List Int) : Option Bool := (impl_sizeOfEach.f k l0).bind fun s => (impl_sizeOfEach.f k l1).bind fun t => if s.length ≤ t.length ∧ (∀ x ∈ s, 0 ≤ x ∧ x ≤ 12) ∧ (∀ x ∈ t, 0 ≤ x ∧ x ≤ 12) then some (decide (impl_tells.keys s t).Nodup) else none
theorem impl_tells.mono : ∀ a0 a1 k, LeO (impl_tells.f k a0 a1) (impl_tells.f (k + 1) a0 a1) := fun a0 a1 k => LeO.bind (impl_sizeOfEach.mono _ _) (fun _ => LeO.bind (impl_sizeOfEach.mono _ _) (fun _ => LeO.refl _))
/-- The array behind keys: which have been seen. -/
def impl_tells.bits (ks : List Int) : Array Value := ((List.range 169).map (fun (j : Nat) => Value.bool (decide ((j : Int) ∈ ks)))).toArray
theorem impl_tells.bits_get (ks : List Int) {j : Nat} (h : j < 169) : (impl_tells.bits ks)[j]? = some (.bool (decide ((j : Int) ∈ ks))) := by
  simp [impl_tells.bits, h]
theorem impl_tells.bits_set (ks : List Int) {j : Nat} (h : j < 169) : (impl_tells.bits ks).setIfInBounds j (.bool true) = impl_tells.bits (ks ++ [(j : Int)]) := by
  apply Array.ext_getElem?
  intro i
  rw [Array.getElem?_setIfInBounds]
  by_cases hi : i < 169
  · rw [impl_tells.bits_get _ hi, impl_tells.bits_get _ hi]
    by_cases e : j = i
    · subst e; simp [impl_tells.bits, h]
    · have e2 : ¬ (i : Int) = (j : Int) := by omega
      simp [e, e2]
  · have n1 : (impl_tells.bits ks)[i]? = none := by simp [impl_tells.bits, hi]
    have n2 : (impl_tells.bits (ks ++ [(j : Int)]))[i]? = none := by simp [impl_tells.bits, hi]
    rw [n1, n2, if_neg (by omega)]
theorem impl_tells.keys_len (s t : List Int) (h : s.length ≤ t.length) : (impl_tells.keys s t).length = s.length := by simp [impl_tells.keys]; omega
theorem impl_tells.keys_get (s t : List Int) {x : Nat} (h : x < s.length) (h2 : x < t.length) : (impl_tells.keys s t)[x]? = some (rd s (x : Int) * 13 + rd t (x : Int)) := by
  simp [impl_tells.keys, rd, List.getD_eq_getElem?_getD, h, h2, List.getElem?_zipWith]
theorem impl_tells.info : (Try.prog.info? 68).map (fun i => (i.zero, i.size)) = some (some (.agg (impl_tells.bits [])), 169) := by kernel_rfl
set_option maxHeartbeats 1000000 in
set_option maxRecDepth 100000 in
theorem impl_tells.calls (k : Nat) (A0 : Option Addr) (c0 : Nat) (l0 : List Int) (A1 : Option Addr) (c1 : Nat) (l1 : List Int) (r : Bool) (w : World) (hr0 : Kd.C (Kd.int .i64) w A0 l0.length l0) (hc0 : l0.length ≤ c0) (hr1 : Kd.C (Kd.int .i64) w A1 l1.length l1) (hc1 : l1.length ≤ c1) (h : impl_tells.f k l0 l1 = some r) :
    Calls Try.prog 51 #[.slice A0 l0.length c0, .slice A1 l1.length c1] w fun e w' => e = .returned (.bool r) ∧ Below w.heap.size w w' := by
  have HR0 := Aside0.mk hr0
  have HC0 := Aside0.mk hc0
  have HR1 := Aside0.mk hr1
  have HC1 := Aside0.mk hc1
  clear hr0 hc0 hr1 hc1
  unfold impl_tells.f at h
  replace h := Option.bind_eq_some_iff.mp h
  obtain ⟨s, hs, h⟩ := h
  replace h := Option.bind_eq_some_iff.mp h
  obtain ⟨t, ht, h⟩ := h
  by_cases hg : s.length ≤ t.length ∧ (∀ x ∈ s, 0 ≤ x ∧ x ≤ 12) ∧ (∀ x ∈ t, 0 ≤ x ∧ x ≤ 12)
  case neg => rw [if_neg hg] at h; cases h
  rw [if_pos hg] at h
  have HE := Aside0.mk (Option.some.inj h)
  have HG := Aside0.mk hg
  have HS := Aside0.mk hs
  have HT := Aside0.mk ht
  clear h hg hs ht
  have HB := Aside0.mk (Below.refl w.heap.size w)
  have hz : ∀ W : World, (zeroValue 68).run Try.prog W = .ok (.agg (impl_tells.bits [])) W := (zero_of_info impl_tells.info).1
  have hst : ∀ W : World, (storeCells ⟨W.heap.size, 0, none⟩ (impl_tells.bits []).toList 0).run Try.prog (W.alloc (.cells (impl_tells.bits []) 68)) = .ok () (W.alloc (.cells (impl_tells.bits []) 68)) := fun W => run_storeCells_new (P := Try.prog) W 68 _ _ ((zero_of_info impl_tells.info).2.trans (by simp [impl_tells.bits])) rfl (by simp [impl_tells.bits, Array.all_eq_true]; intros; rfl)
  go_enter Try.func51, Try.ntmps51
  go_wp2_with fail
  refine (impl_sizeOfEach.calls k A0 c0 l0 s w HR0.out HC0.out HS.out).mono ?_
  rintro e w1 ⟨v1, rfl, hv, hb⟩
  obtain ⟨a1, d1, rfl⟩ := Kd.R_slice hv
  have O1 := Aside0.mk hv
  have B1 := Aside0.mk hb
  clear hv hb
  go_wp2_with fail
  refine (impl_sizeOfEach.calls k A1 c1 l1 t w1 (Kd.C_below HR1.out B1.out) HC1.out HT.out).mono ?_
  rintro e w2 ⟨v2, rfl, hv, hb⟩
  obtain ⟨a2, d2, rfl⟩ := Kd.R_slice hv
  have O2 := Aside0.mk hv
  have B2 := Aside0.mk hb
  clear hv hb
  have HX := Aside0.mk (⟨Nat.zero_le _, Nat.sub_le _ _⟩ : 0 ≤ s.length ∧ s.length - 0 ≤ s.length)
  go_wp2
  have N2 : Aside0 (Below w2.heap.size w2 (w2.alloc (.cells (impl_tells.bits []) 68))) := ⟨below_alloc (Below.refl _ _) _⟩
  go_loopg [18] s.length (fun gg v18 w' => ∃ x : Nat, v18 = .int .i64 (x : Int) ∧ Aside0 (x ≤ s.length ∧ s.length - x ≤ gg) ∧ Aside0 (((impl_tells.keys s t).take x).Nodup) ∧ Aside0 (w'.heap[w2.heap.size]? = some (.cells (impl_tells.bits ((impl_tells.keys s t).take x)) 68 (0, 0))) ∧ Aside0 (Below w.heap.size w w') ∧ Aside0 (Kd.R (Kd.int .i64) 3 w' w.heap.size (fun k => k < w2.heap.size) (.slice a1 s.length d1) s) ∧ Aside0 (Kd.R (Kd.int .i64) 3 w' w1.heap.size (fun k => k < w2.heap.size) (.slice a2 t.length d2) t))
  case atStart => exact ⟨0, rfl, HX, ⟨by simp⟩, ⟨heap_alloc_new _ _⟩, ⟨below_alloc (below_step B1.out B2.out) _⟩, ⟨Kd.R_below (Kd.R_mono (Kd.R_bound (Kd.R_below O1.out B2.out)) (fun _ hk => hk.2.2.1)) N2.out⟩, ⟨Kd.R_below (Kd.R_mono (Kd.R_bound O2.out) (fun _ hk => hk.2.2.1)) N2.out⟩⟩
  case round =>
    clear HX N2 O1 O2 hz hst
    obtain ⟨x, rfl, HX, HN, HC, HBW, O1, O2⟩ := hrel
    by_cases hlt : x < s.length
    · have hlt2 : x < t.length := Nat.lt_of_lt_of_le hlt HG.out.1
      have HL := Aside0.mk hlt
      have hs1 : 0 ≤ rd s (x : Int) ∧ rd s (x : Int) ≤ 12 := HG.out.2.1 _ (by simp [rd, List.getD_eq_getElem?_getD, hlt])
      have ht1 : 0 ≤ rd t (x : Int) ∧ rd t (x : Int) ≤ 12 := HG.out.2.2 _ (by simp [rd, List.getD_eq_getElem?_getD, hlt2])
      have hk := impl_tells.keys_get s t hlt hlt2
      obtain ⟨g1, e1, hx1⟩ := Kd.at_int (Kd.R_reads' O1.out).2.2 (x : Int) (by omega) (by omega)
      obtain ⟨g2, e2, hx2⟩ := Kd.at_int (Kd.R_reads' O2.out).2.2 (x : Int) (by omega) (by omega)
      subst e1 e2
      rw [Int.toNat_natCast] at hx1 hx2
      generalize rd s (x : Int) = p at hx1 hs1 hk
      generalize rd t (x : Int) = q at hx2 ht1 hk
      obtain ⟨p0, p1⟩ := hs1
      obtain ⟨q0, q1⟩ := ht1
      have b0 : 0 ≤ p * 13 + q := by omega
      have b1 : p * 13 + q < 169 := by omega
      have hcell := (blk_cell HC.out (p * 13 + q).toNat).trans (impl_tells.bits_get _ (by omega))
      rw [Int.toNat_of_nonneg b0] at hcell
      have HK := Aside0.mk hk
      clear hk
      have d0 : decide ((x : Int) < (s.length : Int)) = true := decide_eq_true (by omega)
      have d1 : decide (x < s.length) = true := decide_eq_true hlt
      have d2 : decide ((x : Int) < (t.length : Int)) = true := decide_eq_true (by omega)
      have d3 : decide (x < t.length) = true := decide_eq_true hlt2
      have htk := HK.out
      have hsucc : (impl_tells.keys s t).take (x + 1) = (impl_tells.keys s t).take x ++ [p * 13 + q] := by rw [List.take_add_one, HK.out]; rfl
      have HSU := Aside0.mk hsucc
      clear hsucc htk
      by_cases hm : (p * 13 + q) ∈ (impl_tells.keys s t).take x
      · rw [decide_eq_true hm] at hcell
        have HM := Aside0.mk hm
        clear hm
        go_wp2
        go_ret
        have hnd : decide (impl_tells.keys s t).Nodup = false := decide_eq_false (fun hnd => by
          have h3 := (List.Nodup.sublist (List.take_sublist (x + 1) _) hnd)
          rw [HSU.out, List.nodup_append] at h3
          exact h3.2.2 _ HM.out _ List.mem_cons_self rfl)
        exact ⟨by rw [← HE.out, hnd]; rfl, HBW.out⟩
      · rw [decide_eq_false hm] at hcell
        have HM := Aside0.mk hm
        clear hm
        have hfz : wr.frozen? ⟨w2.heap.size, (p * 13 + q).toNat, none⟩ = false := blk_frozen HC.out _
        go_wp2
        have hmax := (Kd.R_reads' O1.out).2.2.2.1
        have hup : wrap64 ((x : Int) + 1) = ((x + 1 : Nat) : Int) := by unfold wrap64; omega
        go_roundg (s.length - (x + 1))
        case measure => have := HX.out; omega
        case rel =>
          refine ⟨x + 1, by rw [hup], ⟨by omega, by omega⟩, ⟨?_⟩, ⟨?_⟩, ⟨below_set HBW.out (Nat.le_trans B1.out.size B2.out.size)⟩, ⟨Kd.R_far O1.out (fun k hk => Nat.ne_of_lt hk) _⟩, ⟨Kd.R_far O2.out (fun k hk => Nat.ne_of_lt hk) _⟩⟩
          · rw [HSU.out, List.nodup_append]
            refine ⟨HN.out, by simp, fun a ha b hb => ?_⟩
            rw [List.mem_singleton] at hb
            subst hb
            intro e
            subst e
            exact HM.out ha
          · have h3 := blk_set HC.out (p * 13 + q).toNat (.bool true)
            rw [impl_tells.bits_set _ (by omega), Int.toNat_of_nonneg b0, ← HSU.out] at h3
            exact h3
    · have d0 : decide ((x : Int) < (s.length : Int)) = false := decide_eq_false (by omega)
      have d1 : decide (x < s.length) = false := decide_eq_false hlt
      have HL := Aside0.mk hlt
      clear hlt
      go_wp2
      go_ret
      have h3 := HN.out
      rw [List.take_of_length_le (by rw [impl_tells.keys_len s t HG.out.1]; have := HL.out; omega)] at h3
      exact ⟨by rw [← HE.out, decide_eq_true h3]; rfl, HBW.out⟩


-- NOT PRINTED: function 69 (impl_partner_1)

/-! ### impl_partner: function 45 -/
/-- Whether a grouping is a partner; what has been found; whether to go on. -/
def impl_partner.step (k : Nat) (a : List Int) (s : Option (List Int)) (gs : List Int) : Option (Option (List Int) × Bool) := if gs = [] then none else (impl_tells.f k a gs).bind fun t => some (if t = true then (some gs, false) else (s, s.isNone))
def impl_partner.f (k : Nat) (a : List Int) : Option (Option (List Int)) := if a.length ≤ 1000 then (impl_groupings.walk (impl_partner.step k a) a.length [] 0 none).bind fun r => some r.1 else none
theorem impl_partner.mono_step (k : Nat) (a : List Int) (s : Option (List Int)) (gs : List Int) : LeO (impl_partner.step k a s gs) (impl_partner.step (k + 1) a s gs) := by
  unfold impl_partner.step
  exact LeO.ite (LeO.none _) (LeO.bind (impl_tells.mono _ _ _) (fun _ => LeO.refl _))
theorem impl_partner.mono : ∀ a k, LeO (impl_partner.f k a) (impl_partner.f (k + 1) a) := fun a k => LeO.ite (LeO.bind (impl_groupings.walk_mono (fun s gs => impl_partner.mono_step k a s gs) _ _ _ _) (fun _ => LeO.refl _)) (LeO.none _)
/-- What lies in the variable for what has been found. -/
def impl_partner.Out (B bo : Nat) (s : Option (List Int)) (w : World) : Prop := match s with
  | none => w.heap[bo]? = some (.cells #[.slice none 0 0] 32 (0, 0))
  | some gs => ∃ (ad : Addr) (c : Nat), w.heap[bo]? = some (.cells #[.slice (some ad) gs.length c] 32 (0, 0)) ∧ Kd.R (Kd.int .i64) 3 w B (fun _ => True) (.slice (some ad) gs.length c) gs
structure impl_partner.Inv (w0 : World) (B ba bo : Nat) (A : Option Addr) (c : Nat) (a : List Int) (s : Option (List Int)) (w : World) : Prop where
  arg : w.cell? ⟨ba, 0, none⟩ = some (.slice A a.length c)
  bel : Below w0.heap.size w0 w
  out : impl_partner.Out B bo s w
theorem impl_partner.Inv.below {w0 : World} {B ba bo : Nat} {A : Option Addr} {c : Nat} {a : List Int} {s : Option (List Int)} {w w' : World} (h : impl_partner.Inv w0 B ba bo A c a s w) (hb : Below w.heap.size w w') : impl_partner.Inv w0 B ba bo A c a s w' := by
  refine ⟨(hb.cell (World.block_lt_of_cell? w _ h.arg)).trans h.arg, below_step h.bel hb, ?_⟩
  have ho := h.out
  unfold impl_partner.Out at ho ⊢
  cases s with
  | none => exact blk_below ho hb
  | some gs =>
    obtain ⟨ad, c', h1, h2⟩ := ho
    exact ⟨ad, c', blk_below h1 hb, Kd.R_below h2 hb⟩
theorem impl_partner.some_of {w : World} {B : Nat} {ok : Nat → Prop} {A : Option Addr} {c : Nat} {gs : List Int} (h : Kd.R (Kd.int .i64) 3 w B ok (.slice A gs.length c) gs) (hne : gs ≠ []) : ∃ ad, A = some ad := by
  obtain ⟨ad, h1, _⟩ := (Kd.R_reads' h).2.2.2.2 (by cases gs with | nil => exact absurd rfl hne | cons x l => simp)
  exact ⟨ad, h1⟩
set_option maxHeartbeats 2000000 in
set_option maxRecDepth 100000 in
theorem impl_partner.each (k : Nat) (a : List Int) (w0 : World) (B ba bo : Nat) (A : Option Addr) (c : Nat) (hC : Kd.C (Kd.int .i64) w0 A a.length a) (hc : a.length ≤ c) (hbo : bo < B) (h0 : w0.heap.size ≤ bo) (hab : ba ≠ bo) :
    impl_groupings.Each (impl_partner.step k a) (impl_partner.Inv w0 B ba bo A c a) (fun q => q = bo) B 69 #[.pointer (some ⟨ba, 0, none⟩), .pointer (some ⟨bo, 0, none⟩)] := by
  intro s gs s' b v W hi hR hB hs
  unfold impl_partner.step at hs
  by_cases hne : gs = []
  · rw [if_pos hne] at hs; cases hs
  rw [if_neg hne] at hs
  obtain ⟨t, ht, hs⟩ := Option.bind_eq_some_iff.mp hs
  obtain ⟨A2, c2, rfl⟩ := Kd.R_slice hR
  obtain ⟨ad2, rfl⟩ := impl_partner.some_of hR hne
  have harg := hi.arg
  have HI := Aside0.mk hi
  have HR := Aside0.mk hR
  have HT := Aside0.mk ht
  have HS := Aside0.mk hs
  have HBS := Aside0.mk hB
  clear hi hR ht hs hB hne
  have e0 : ∀ w : World, (binOp .eql 32 (.slice none 0 0) (.slice none 0 0)).run Try.prog w = .ok (.bool true) w := fun _ => rfl
  have e1 : ∀ (w : World) (ad : Addr) (n q : Nat), (binOp .eql 32 (.slice (some ad) n q) (.slice none 0 0)).run Try.prog w = .ok (.bool false) w := fun _ _ _ _ => rfl
  go_enter Try.func69, Try.ntmps69
  go_wp2_with fail
  refine (impl_tells.calls k A c a (some ad2) c2 gs t W (Kd.C_below hC HI.out.bel) hc (Kd.R_reads' HR.out).2.2 (Kd.R_reads' HR.out).2.1 HT.out).mono ?_
  rintro e w1 ⟨rfl, hb⟩
  have I1 := Aside0.mk (HI.out.below hb)
  have R1 := Aside0.mk (Kd.R_below HR.out hb)
  have B1 := Aside0.mk hb
  clear hb HI HR HT harg
  cases t with
  | false =>
    have hs := HS.out
    rw [if_neg (by simp)] at hs
    obtain ⟨rfl, rfl⟩ := Prod.mk.inj (Option.some.inj hs)
    clear hs HS
    have ho := I1.out.out
    unfold impl_partner.Out at ho
    cases s with
    | none =>
      have h1 := (blk_cell ho 0).trans rfl
      clear ho
      go_wp2
      go_ret
      exact ⟨rfl, I1.out, impl_groupings.KO.below B1.out⟩
    | some g0 =>
      obtain ⟨ad, c', h1, h2⟩ := ho
      have h3 := (blk_cell h1 0).trans rfl
      clear h1 h2
      go_wp2
      go_ret
      exact ⟨rfl, I1.out, impl_groupings.KO.below B1.out⟩
  | true =>
    have hs := HS.out
    rw [if_pos rfl] at hs
    obtain ⟨rfl, rfl⟩ := Prod.mk.inj (Option.some.inj hs)
    clear hs HS
    obtain ⟨u, hu⟩ : ∃ u : Value, w1.heap[bo]? = some (.cells #[u] 32 (0, 0)) := by
      have ho := I1.out.out
      unfold impl_partner.Out at ho
      cases s with
      | none => exact ⟨_, ho⟩
      | some g0 =>
        obtain ⟨ad, c', h1, h2⟩ := ho
        exact ⟨_, h1⟩
    have h1 : w1.cell? ⟨bo, 0, none⟩ = some u := (blk_cell hu 0).trans rfl
    have h2 : w1.frozen? ⟨bo, 0, none⟩ = false := blk_frozen hu 0
    have HU := Aside0.mk hu
    clear hu
    go_wp2
    go_ret
    refine ⟨rfl, ⟨?_, below_set I1.out.bel h0, ?_⟩, (impl_groupings.KO.below B1.out).trans (impl_groupings.KO.set (K := fun q => q = bo) (p := ⟨bo, 0, none⟩) w1 rfl _)⟩
    · exact (World.cell?_of_block (Below.heap_setCell w1 ⟨bo, 0, none⟩ _ ba hab)).trans I1.out.arg
    · exact ⟨ad2, c2, blk_set HU.out 0 _, Kd.R_mono (Kd.R_far (p := ⟨bo, 0, none⟩) (Kd.R_mono (ok' := fun k => k ≠ bo) (Kd.R_bound R1.out) (fun k hk e => by have := hk.2.1; omega)) (fun k hk => hk) _) (fun _ _ => trivial)⟩
/-- What is handed back: nothing, or a row of one's own. -/
def impl_partner.Res (B : Nat) (r : Option (List Int)) (w' : World) (v : Value) : Prop := match r with
  | none => v = .slice none 0 0
  | some gs => ∃ (ad : Addr) (c : Nat), v = .slice (some ad) gs.length c ∧ Kd.R (Kd.int .i64) 3 w' B (fun _ => True) (.slice (some ad) gs.length c) gs
set_option maxHeartbeats 2000000 in
set_option maxRecDepth 100000 in
theorem impl_partner.calls (k : Nat) (A0 : Option Addr) (c0 : Nat) (l0 : List Int) (r : Option (List Int)) (w : World) (hr0 : Kd.C (Kd.int .i64) w A0 l0.length l0) (hc0 : l0.length ≤ c0) (h : impl_partner.f k l0 = some r) :
    Calls Try.prog 45 #[.slice A0 l0.length c0] w fun e w' => ∃ v0_ : Value, e = .returned v0_ ∧ impl_partner.Res w.heap.size r w' v0_ ∧ Below w.heap.size w w' := by
  unfold impl_partner.f at h
  split at h
  case isFalse => cases h
  rename_i hlen
  obtain ⟨⟨s, b⟩, hw, hs⟩ := Option.bind_eq_some_iff.mp h
  cases hs
  have HR := Aside0.mk hr0
  have HC := Aside0.mk hc0
  have HW := Aside0.mk hw
  have HL := Aside0.mk hlen
  clear hr0 hc0 hw h hlen
  go_enter Try.func45, Try.ntmps45
  go_wp2_with fail
  have hsz : (w.alloc (.cells #[.slice A0 l0.length c0] 32)).heap.size = w.heap.size + 1 := by simp
  have g1 : ((w.alloc (.cells #[.slice A0 l0.length c0] 32)).alloc (.cells #[.slice none 0 0] 32)).cell? ⟨w.heap.size, 0, none⟩ = some (.slice A0 l0.length c0) := (blk_cell (blk_alloc (heap_alloc_new w _) _) 0).trans rfl
  have g2 : ((w.alloc (.cells #[.slice A0 l0.length c0] 32)).alloc (.cells #[.slice none 0 0] 32)).heap[w.heap.size + 1]? = some (.cells #[.slice none 0 0] 32 (0, 0)) := by
    have g := heap_alloc_new (w.alloc (.cells #[.slice A0 l0.length c0] 32)) (.cells #[.slice none 0 0] 32)
    rw [hsz] at g
    exact g
  have g3 : Below w.heap.size w ((w.alloc (.cells #[.slice A0 l0.length c0] 32)).alloc (.cells #[.slice none 0 0] 32)) := below_alloc (below_alloc (Below.refl _ _) _) _
  have eg : ∀ args w, (callFunc 69 args).run Try.prog w = .ok (.enter 69 args) w := enters_ Try.func69 (by rfl) rfl
  refine (impl_groupings.all (impl_partner.step k l0) (impl_partner.Inv w (w.heap.size + 2) w.heap.size (w.heap.size + 1) A0 c0 l0) (fun q => q = w.heap.size + 1) (w.heap.size + 2) 69 #[.pointer (some ⟨w.heap.size, 0, none⟩), .pointer (some ⟨w.heap.size + 1, 0, none⟩)] (impl_partner.each k l0 w (w.heap.size + 2) w.heap.size (w.heap.size + 1) A0 c0 HR.out HC.out (by omega) (by omega) (by omega)) eg (fun s W W' hi hb => hi.below hb) (fun q hq => by omega) l0.length HL.out none s b _ ⟨g1, g3, g2⟩ (by simp) HW.out).mono ?_
  rintro e w' ⟨rfl, hi, hk⟩
  have HI := Aside0.mk hi
  have ho := hi.out
  clear g1 g2 g3 hi hk eg
  unfold impl_partner.Out at ho
  cases s with
  | none =>
    have h1 := (blk_cell ho 0).trans rfl
    clear ho
    go_wp2
    go_ret
    exact ⟨_, rfl, rfl, HI.out.bel⟩
  | some gs =>
    obtain ⟨ad, c', h1, h2⟩ := ho
    have h3 := (blk_cell h1 0).trans rfl
    have H2 := Aside0.mk h2
    clear h1 h2
    go_wp2
    go_ret
    have HL2 : Kd.R (Kd.int .i64) 3 w' w.heap.size (fun _ => True) (.slice (some ad) gs.length c') gs := Kd.R_lower H2.out (by omega)
    refine ⟨.slice (some ad) gs.length c', rfl, ?_, HI.out.bel⟩
    exact ⟨ad, c', rfl, HL2⟩


-- NOT PRINTED: function 44 (impl_FirstTelling_1)

/-! ### impl_FirstTelling: function 25 -/
def impl_FirstTelling.step (k : Nat) (s : Option (List Int × List Int)) (gs : List Int) : Option (Option (List Int × List Int) × Bool) := if gs = [] then none else (impl_partner.f k gs).bind fun o => match o with
  | none => some (s, s.isNone)
  | some b => if b = [] then none else some (some (gs, b), false)
def impl_FirstTelling.res (s : Option (List Int × List Int)) : List Int × List Int × Bool := match s with
  | none => ([], [], false)
  | some p => (p.1, p.2, true)
def impl_FirstTelling.f (k : Nat) (a0 : Int) : Option (List Int × List Int × Bool) := (impl_areListed.f a0).bind fun t => if t = true then (if 0 ≤ a0 ∧ a0 ≤ 1000 then (impl_groupings.walk (impl_FirstTelling.step k) a0.toNat [] 0 none).bind fun r => some (impl_FirstTelling.res r.1) else none) else some ([], [], false)
theorem impl_FirstTelling.mono_step (k : Nat) (s : Option (List Int × List Int)) (gs : List Int) : LeO (impl_FirstTelling.step k s gs) (impl_FirstTelling.step (k + 1) s gs) := by
  unfold impl_FirstTelling.step
  exact LeO.ite (LeO.none _) (LeO.bind (impl_partner.mono _ _) (fun _ => LeO.refl _))
theorem impl_FirstTelling.mono : ∀ a0 k, LeO (impl_FirstTelling.f k a0) (impl_FirstTelling.f (k + 1) a0) := fun a0 k => LeO.bind (LeO.refl _) (fun _ => LeO.ite (LeO.ite (LeO.bind (impl_groupings.walk_mono (fun s gs => impl_FirstTelling.mono_step k s gs) _ _ _ _) (fun _ => LeO.refl _)) (LeO.none _)) (LeO.refl _))
/-- What lies in the two variables. -/
def impl_FirstTelling.Out (B b1 b2 : Nat) (s : Option (List Int × List Int)) (w : World) : Prop := match s with
  | none => w.heap[b1]? = some (.cells #[.slice none 0 0] 32 (0, 0)) ∧ w.heap[b2]? = some (.cells #[.slice none 0 0] 32 (0, 0))
  | some p => ∃ (a1 : Addr) (c1 : Nat) (a2 : Addr) (c2 : Nat), w.heap[b1]? = some (.cells #[.slice (some a1) p.1.length c1] 32 (0, 0)) ∧ w.heap[b2]? = some (.cells #[.slice (some a2) p.2.length c2] 32 (0, 0)) ∧
    Kd.R (Kd.int .i64) 3 w B (fun k => k ≠ a2.block) (.slice (some a1) p.1.length c1) p.1 ∧ Kd.R (Kd.int .i64) 3 w B (fun k => k ≠ a1.block) (.slice (some a2) p.2.length c2) p.2
structure impl_FirstTelling.Inv (w0 : World) (B b1 b2 : Nat) (s : Option (List Int × List Int)) (w : World) : Prop where
  bel : Below w0.heap.size w0 w
  out : impl_FirstTelling.Out B b1 b2 s w
theorem impl_FirstTelling.Inv.below {w0 : World} {B b1 b2 : Nat} {s : Option (List Int × List Int)} {w w' : World} (h : impl_FirstTelling.Inv w0 B b1 b2 s w) (hb : Below w.heap.size w w') : impl_FirstTelling.Inv w0 B b1 b2 s w' := by
  refine ⟨below_step h.bel hb, ?_⟩
  have ho := h.out
  unfold impl_FirstTelling.Out at ho ⊢
  cases s with
  | none => exact ⟨blk_below ho.1 hb, blk_below ho.2 hb⟩
  | some p =>
    obtain ⟨a1, c1, a2, c2, h1, h2, h3, h4⟩ := ho
    exact ⟨a1, c1, a2, c2, blk_below h1 hb, blk_below h2 hb, Kd.R_below h3 hb, Kd.R_below h4 hb⟩
theorem impl_FirstTelling.Inv.cells {w0 : World} {B b1 b2 : Nat} {s : Option (List Int × List Int)} {w : World} (h : impl_FirstTelling.Inv w0 B b1 b2 s w) : ∃ u1 u2 : Value, w.heap[b1]? = some (.cells #[u1] 32 (0, 0)) ∧ w.heap[b2]? = some (.cells #[u2] 32 (0, 0)) := by
  have ho := h.out
  unfold impl_FirstTelling.Out at ho
  cases s with
  | none => exact ⟨_, _, ho.1, ho.2⟩
  | some p =>
    obtain ⟨a1, c1, a2, c2, h1, h2, h3, h4⟩ := ho
    exact ⟨_, _, h1, h2⟩
set_option maxHeartbeats 2000000 in
set_option maxRecDepth 100000 in
theorem impl_FirstTelling.each (k : Nat) (w0 : World) (B b1 b2 : Nat) (h1B : b1 < B) (h2B : b2 < B) (h10 : w0.heap.size ≤ b1) (h20 : w0.heap.size ≤ b2) (h12 : b1 ≠ b2) :
    impl_groupings.Each (impl_FirstTelling.step k) (impl_FirstTelling.Inv w0 B b1 b2) (fun q => q = b1 ∨ q = b2) B 44 #[.pointer (some ⟨b1, 0, none⟩), .pointer (some ⟨b2, 0, none⟩)] := by
  intro s gs s' b v W hi hR hB hs
  unfold impl_FirstTelling.step at hs
  by_cases hne : gs = []
  · rw [if_pos hne] at hs; cases hs
  rw [if_neg hne] at hs
  obtain ⟨o, ho, hs⟩ := Option.bind_eq_some_iff.mp hs
  obtain ⟨A2, c2, rfl⟩ := Kd.R_slice hR
  obtain ⟨ad2, rfl⟩ := impl_partner.some_of hR hne
  have HI := Aside0.mk hi
  have HR := Aside0.mk hR
  have HO := Aside0.mk ho
  have HS := Aside0.mk hs
  have HBS := Aside0.mk hB
  clear hi hR ho hs hB hne
  have e0 : ∀ w : World, (binOp .eql 32 (.slice none 0 0) (.slice none 0 0)).run Try.prog w = .ok (.bool true) w := fun _ => rfl
  have e1 : ∀ (w : World) (ad : Addr) (n q : Nat), (binOp .eql 32 (.slice (some ad) n q) (.slice none 0 0)).run Try.prog w = .ok (.bool false) w := fun _ _ _ _ => rfl
  have n0 : ∀ w : World, (binOp .neq 32 (.slice none 0 0) (.slice none 0 0)).run Try.prog w = .ok (.bool false) w := fun _ => rfl
  have n1 : ∀ (w : World) (ad : Addr) (n q : Nat), (binOp .neq 32 (.slice (some ad) n q) (.slice none 0 0)).run Try.prog w = .ok (.bool true) w := fun _ _ _ _ => rfl
  go_enter Try.func44, Try.ntmps44
  go_wp2_with fail
  refine (impl_partner.calls k (some ad2) c2 gs o W (Kd.R_reads' HR.out).2.2 (Kd.R_reads' HR.out).2.1 HO.out).mono ?_
  rintro e w1 ⟨v1, rfl, hv, hb⟩
  have I1 := Aside0.mk (HI.out.below hb)
  have R1 := Aside0.mk (Kd.R_below (Kd.R_bound HR.out) hb)
  have B1 := Aside0.mk hb
  have HLT := Aside0.mk (Kd.R_lt HR.out)
  clear hb HI HR HO
  cases o with
  | none =>
    subst hv
    have hs := HS.out
    obtain ⟨rfl, rfl⟩ := Prod.mk.inj (Option.some.inj hs)
    clear hs HS
    have ho := I1.out.out
    unfold impl_FirstTelling.Out at ho
    cases s with
    | none =>
      have h1 := (blk_cell ho.1 0).trans rfl
      clear ho
      go_wp2
      go_ret
      exact ⟨rfl, I1.out, impl_groupings.KO.below B1.out⟩
    | some p =>
      obtain ⟨a1, c1, a2, c2', h1, h2, h3, h4⟩ := ho
      have h5 := (blk_cell h1 0).trans rfl
      clear h1 h2 h3 h4
      go_wp2
      go_ret
      exact ⟨rfl, I1.out, impl_groupings.KO.below B1.out⟩
  | some bb =>
    obtain ⟨ad, c', rfl, hb2⟩ := hv
    have hs := HS.out
    by_cases hbn : bb = []
    · simp only [if_pos hbn] at hs; cases hs
    simp only [if_neg hbn] at hs
    obtain ⟨rfl, rfl⟩ := Prod.mk.inj (Option.some.inj hs)
    clear hs HS hbn
    have RB := Aside0.mk hb2
    obtain ⟨u1, u2, hu1, hu2⟩ := I1.out.cells
    have H1 := Aside0.mk hu1
    have H2 := Aside0.mk hu2
    have g1 : w1.cell? ⟨b1, 0, none⟩ = some u1 := (blk_cell hu1 0).trans rfl
    have g2 : w1.frozen? ⟨b1, 0, none⟩ = false := blk_frozen hu1 0
    have H3 := Aside0.mk ((Below.heap_setCell w1 ⟨b1, 0, none⟩ (.slice (some ad2) gs.length c2) b2 (fun e => h12 e.symm)).trans hu2)
    have g3 : (w1.setCell ⟨b1, 0, none⟩ (.slice (some ad2) gs.length c2)).cell? ⟨b2, 0, none⟩ = some u2 := (blk_cell H3.out 0).trans rfl
    have g4 : (w1.setCell ⟨b1, 0, none⟩ (.slice (some ad2) gs.length c2)).frozen? ⟨b2, 0, none⟩ = false := blk_frozen H3.out 0
    clear hu1 hu2 hb2
    go_wp2
    go_ret
    have hlt : ad2.block < W.heap.size := HLT.out _ (by simp [Value.ownBlock])
    have hge : W.heap.size ≤ ad.block := Kd.R_base RB.out _ (by simp [Value.ownBlock])
    have hbs := HBS.out
    refine ⟨rfl, ⟨below_set (below_set I1.out.bel h10) h20, ?_⟩, (impl_groupings.KO.below B1.out).trans ((impl_groupings.KO.set (K := fun q => q = b1 ∨ q = b2) (p := ⟨b1, 0, none⟩) w1 (.inl rfl) _).trans (impl_groupings.KO.set (K := fun q => q = b1 ∨ q = b2) (p := ⟨b2, 0, none⟩) _ (.inr rfl) _))⟩
    have q1 : ((w1.setCell ⟨b1, 0, none⟩ (.slice (some ad2) gs.length c2)).setCell ⟨b2, 0, none⟩ (.slice (some ad) bb.length c')).heap[b1]? = some (.cells #[.slice (some ad2) gs.length c2] 32 (0, 0)) := (Below.heap_setCell _ ⟨b2, 0, none⟩ _ b1 h12).trans (blk_set H1.out 0 _)
    have q2 : ((w1.setCell ⟨b1, 0, none⟩ (.slice (some ad2) gs.length c2)).setCell ⟨b2, 0, none⟩ (.slice (some ad) bb.length c')).heap[b2]? = some (.cells #[.slice (some ad) bb.length c'] 32 (0, 0)) := blk_set H3.out 0 _
    have q3 := Kd.R_far (p := ⟨b2, 0, none⟩) (Kd.R_far (p := ⟨b1, 0, none⟩) (Kd.R_mono (ok' := fun k => (k ≠ b1 ∧ k ≠ b2) ∧ k ≠ ad.block) R1.out (fun k hk => by have := hk.2.1; have := hk.2.2.1; omega)) (fun k hk => hk.1.1) (.slice (some ad2) gs.length c2)) (fun k hk => hk.1.2) (.slice (some ad) bb.length c')
    have q4 := Kd.R_far (p := ⟨b2, 0, none⟩) (Kd.R_far (p := ⟨b1, 0, none⟩) (Kd.R_mono (ok' := fun k => (k ≠ b1 ∧ k ≠ b2) ∧ k ≠ ad2.block) (Kd.R_bound RB.out) (fun k hk => by have := hk.2.1; omega)) (fun k hk => hk.1.1) (.slice (some ad2) gs.length c2)) (fun k hk => hk.1.2) (.slice (some ad) bb.length c')
    exact ⟨ad2, c2, ad, c', q1, q2, Kd.R_mono q3 (fun k hk => hk.2), Kd.R_lower (Kd.R_mono q4 (fun k hk => hk.2)) hbs⟩
/-- What is handed back: two rows of one's own, apart. -/
def impl_FirstTelling.Res (B : Nat) (r1 r2 : List Int) (w' : World) (v0 v1 : Value) : Prop := Kd.R (Kd.int .i64) 3 w' B (fun k_ => some k_ ≠ v1.ownBlock) v0 r1 ∧ Kd.R (Kd.int .i64) 3 w' B (fun k_ => some k_ ≠ v0.ownBlock) v1 r2
set_option maxHeartbeats 2000000 in
set_option maxRecDepth 100000 in
theorem impl_FirstTelling.calls (k : Nat) (a0 : Int) (r1 : List Int) (r2 : List Int) (r3 : Bool) (w : World) (h : impl_FirstTelling.f k a0 = some (r1, r2, r3)) :
    Calls Try.prog 25 #[.int .i64 a0] w fun e w' => ∃ v0_ v1_ : Value, e = .returned (.tuple #[v0_, v1_, .bool r3]) ∧ Kd.R (Kd.int .i64) 3 w' w.heap.size (fun k_ => some k_ ≠ (v1_ : Value).ownBlock) v0_ r1 ∧ Kd.R (Kd.int .i64) 3 w' w.heap.size (fun k_ => some k_ ≠ (v0_ : Value).ownBlock) v1_ r2 ∧ Below w.heap.size w w' := by
  have key : Calls Try.prog 25 #[.int .i64 a0] w fun e w' => ∃ v0_ v1_ : Value, e = .returned (.tuple #[v0_, v1_, .bool r3]) ∧ impl_FirstTelling.Res w.heap.size r1 r2 w' v0_ v1_ ∧ Below w.heap.size w w' := by
    unfold impl_FirstTelling.f at h
    obtain ⟨t, ht, h⟩ := Option.bind_eq_some_iff.mp h
    have HT := Aside0.mk ht
    clear ht
    cases t with
    | false =>
      rw [if_neg (by simp)] at h
      simp only [Option.some.injEq, Prod.mk.injEq] at h
      obtain ⟨rfl, rfl, rfl⟩ := h
      go_enter Try.func25, Try.ntmps25
      go_wp2_with fail
      refine (impl_areListed.calls a0 false _ HT.out).mono ?_
      rintro e w1 ⟨rfl, ⟨nd, rfl⟩⟩
      go_wp2
      go_ret3
      exact ⟨_, _, rfl, ⟨Kd.R_nil _ _ _ _ _, Kd.R_nil _ _ _ _ _⟩, by repeat (first | exact Below.refl _ _ | apply below_alloc | apply pw_below_drewN)⟩
    | true =>
      rw [if_pos rfl] at h
      split at h
      case isFalse => cases h
      rename_i hr
      obtain ⟨⟨s, b⟩, hw, hs⟩ := Option.bind_eq_some_iff.mp h
      have HS := Aside0.mk (Option.some.inj hs)
      have HW := Aside0.mk hw
      obtain ⟨n, rfl⟩ := Int.eq_ofNat_of_zero_le hr.1
      have hn : n ≤ 1000 := by omega
      have HN := Aside0.mk hn
      clear hs hw h hr hn
      go_enter Try.func25, Try.ntmps25
      go_wp2_with fail
      refine (impl_areListed.calls (n : Int) true _ HT.out).mono ?_
      rintro e w1 ⟨rfl, ⟨nd, rfl⟩⟩
      have B1 := Aside0.mk (show Below w.heap.size w (w.drewN nd) from by repeat (first | exact Below.refl _ _ | apply pw_below_drewN))
      have hsz0 := Aside0.mk (show (w.drewN nd).heap.size = w.heap.size from rfl)
      generalize w.drewN nd = wd at B1 hsz0 ⊢
      go_wp2_with fail
      have hsz : (wd.alloc (.cells #[.slice none 0 0] 32)).heap.size = wd.heap.size + 1 := by simp
      have g1 : ((wd.alloc (.cells #[.slice none 0 0] 32)).alloc (.cells #[.slice none 0 0] 32)).heap[wd.heap.size]? = some (.cells #[.slice none 0 0] 32 (0, 0)) := blk_alloc (heap_alloc_new wd _) _
      have g2 : ((wd.alloc (.cells #[.slice none 0 0] 32)).alloc (.cells #[.slice none 0 0] 32)).heap[wd.heap.size + 1]? = some (.cells #[.slice none 0 0] 32 (0, 0)) := by
        have g := heap_alloc_new (wd.alloc (.cells #[.slice none 0 0] 32)) (.cells #[.slice none 0 0] 32)
        rw [hsz] at g
        exact g
      have g3 : Below wd.heap.size wd ((wd.alloc (.cells #[.slice none 0 0] 32)).alloc (.cells #[.slice none 0 0] 32)) := below_alloc (below_alloc (Below.refl _ _) _) _
      have eg : ∀ args w, (callFunc 44 args).run Try.prog w = .ok (.enter 44 args) w := enters_ Try.func44 (by rfl) rfl
      refine (impl_groupings.all (impl_FirstTelling.step k) (impl_FirstTelling.Inv wd (wd.heap.size + 2) wd.heap.size (wd.heap.size + 1)) (fun q => q = wd.heap.size ∨ q = wd.heap.size + 1) (wd.heap.size + 2) 44 #[.pointer (some ⟨wd.heap.size, 0, none⟩), .pointer (some ⟨wd.heap.size + 1, 0, none⟩)] (impl_FirstTelling.each k wd (wd.heap.size + 2) wd.heap.size (wd.heap.size + 1) (by omega) (by omega) (by omega) (by omega) (by omega)) eg (fun s W W' hi hb => hi.below hb) (fun q hq => by omega) n HN.out none s b _ ⟨g3, g1, g2⟩ (by simp) HW.out).mono ?_
      rintro e w' ⟨rfl, hi, hk⟩
      have HI := Aside0.mk hi
      have ho := hi.out
      clear g1 g2 g3 hi hk eg hsz
      unfold impl_FirstTelling.Out at ho
      have n0 : ∀ w : World, (binOp .neq 32 (.slice none 0 0) (.slice none 0 0)).run Try.prog w = .ok (.bool false) w := fun _ => rfl
      have n1 : ∀ (w : World) (ad : Addr) (n q : Nat), (binOp .neq 32 (.slice (some ad) n q) (.slice none 0 0)).run Try.prog w = .ok (.bool true) w := fun _ _ _ _ => rfl
      have hs := HS.out
      cases s with
      | none =>
        have h1 := (blk_cell ho.1 0).trans rfl
        have h2 := (blk_cell ho.2 0).trans rfl
        simp only [impl_FirstTelling.res, Prod.mk.injEq] at hs
        obtain ⟨rfl, rfl, rfl⟩ := hs
        clear ho HS
        go_wp2
        go_quiet (fail)
        go_wp2
        go_ret3
        exact ⟨_, _, rfl, ⟨Kd.R_nil _ _ _ _ _, Kd.R_nil _ _ _ _ _⟩, pw_below_drewN (below_step B1.out HI.out.bel) _⟩
      | some p =>
        obtain ⟨a1, c1, a2, c2, h1, h2, h3, h4⟩ := ho
        have q1 := (blk_cell h1 0).trans rfl
        have q2 := (blk_cell h2 0).trans rfl
        simp only [impl_FirstTelling.res, Prod.mk.injEq] at hs
        obtain ⟨rfl, rfl, rfl⟩ := hs
        have H3 := Aside0.mk h3
        have H4 := Aside0.mk h4
        clear h1 h2 h3 h4 HS
        go_wp2
        go_quiet (fail)
        go_wp2
        go_ret3
        have hle : w.heap.size ≤ wd.heap.size + 2 := by have := hsz0.out; omega
        have W3 := Kd.R_lower (Kd.R_mono (ok' := fun k_ => some k_ ≠ (Value.slice (some a2) p.2.length c2).ownBlock) H3.out (fun k hk e => hk (by simpa [Value.ownBlock] using e))) hle
        have W4 := Kd.R_lower (Kd.R_mono (ok' := fun k_ => some k_ ≠ (Value.slice (some a1) p.1.length c1).ownBlock) H4.out (fun k hk e => hk (by simpa [Value.ownBlock] using e))) hle
        exact ⟨_, _, rfl, ⟨W3, W4⟩, pw_below_drewN (below_step B1.out HI.out.bel) _⟩
  refine key.mono ?_
  rintro e w' ⟨v0, v1, he, ⟨h1, h2⟩, hb⟩
  exact ⟨v0, v1, he, h1, h2, hb⟩


end Go.Proofs.Ytbmhgmnlkeebcab.PFnExactFirstTelling
