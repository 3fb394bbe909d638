-- Written by a program of this claim, over the kit's print: the functions that a law reaches, their plain forms and the walks.
import Derived.Test.YtbmhgmnlkeebcabPFnExactCountPartnersx0
import Derived.Test.YtbmhgmnlkeebcabPFnExactCountPartnersx1
import Derived.Test.YtbmhgmnlkeebcabPFnExactCountPartnersx3
import Derived.Test.YtbmhgmnlkeebcabPFnExactCountPartnersx4
import Derived.Test.YtbmhgmnlkeebcabPFnExactCountPartnersx5
namespace Go.Proofs.Ytbmhgmnlkeebcab.PFnExactCountPartners
open Go.RowKit Go.Proofs.YtbmhgmnlkeebcabW.PrintWords Go.Proofs.YtbmhgmnlkeebcabW.PrintLast Go.Proofs.YtbmhgmnlkeebcabW.PrintMore
attribute [local go_sem] max2_int min2_int max_two min_two max_three min_three max_four min_four   -- for this text's walks alone
set_option linter.unusedVariables false
set_option linter.unusedSimpArgs false

/-! ### impl_sizeOfEach: function 73 -/
mutual
def impl_sizeOfEach.l0 : Nat → List Int → List (List Int) → Int → Int → Option (List Int)
  | 0, _, _, _, _ => none
  | k + 1, x3, x12, x13, x14 => if x14 < x13 then (if 0 ≤ x14 then (if x14 < (x12.length : Int) then (impl_sizeOfEach.l1 k x3 (rd_L1 x12 x14) x12 x13 x14 (rd_L1 x12 x14) ((rd_L1 x12 x14).length : Int) 0) else (none)) else (none)) else (some x3)
def impl_sizeOfEach.l1 : Nat → List Int → List Int → List (List Int) → Int → Int → List Int → Int → Int → Option (List Int)
  | 0, _, _, _, _, _, _, _, _ => none
  | k + 1, x3, x5, x12, x13, x14, x18, x19, x20 => if x20 < x19 then (if 0 ≤ x20 then (if x20 < (x18.length : Int) then (if 0 ≤ (rd x18 x20) then (if (rd x18 x20) < (x3.length : Int) then (impl_sizeOfEach.l1 k (x3.set ((rd x18 x20) : Int).toNat (x5.length : Int)) x5 x12 x13 x14 x18 x19 (wrap64 (x20 + 1))) else (none)) else (none)) else (none)) else (none)) else (impl_sizeOfEach.l0 k x3 x12 x13 (wrap64 (x14 + 1)))
end
def impl_sizeOfEach.f (k : Nat) (l0 : List Int) : Option (List Int) := if 0 ≤ (l0.length : Int) then (if ((l0.length : Int) : Int).toNat ≤ 35184372088832 then ((impl_groupsOf.f k l0).bind fun t245 => (impl_sizeOfEach.l0 k (List.replicate ((l0.length : Int) : Int).toNat 0) t245 (t245.length : Int) 0)) else (none)) else (none)
theorem impl_sizeOfEach.mono_l : ∀ k, (∀ y0 y1 y2 y3, LeO (impl_sizeOfEach.l0 k y0 y1 y2 y3) (impl_sizeOfEach.l0 (k + 1) y0 y1 y2 y3)) ∧ (∀ y0 y1 y2 y3 y4 y5 y6 y7, LeO (impl_sizeOfEach.l1 k y0 y1 y2 y3 y4 y5 y6 y7) (impl_sizeOfEach.l1 (k + 1) y0 y1 y2 y3 y4 y5 y6 y7))
  | 0 => ⟨fun _ _ _ _ r h => by simp [impl_sizeOfEach.l0] at h, fun _ _ _ _ _ _ _ _ r h => by simp [impl_sizeOfEach.l1] at h⟩
  | k + 1 => by
    obtain ⟨ih0, ih1⟩ := impl_sizeOfEach.mono_l k
    refine ⟨?_, ?_⟩
    · intro y0 y1 y2 y3
      unfold impl_sizeOfEach.l0
      repeat' first
      | (with_reducible exact ih0 _ _ _ _)
      | (with_reducible exact ih1 _ _ _ _ _ _ _ _)
      | (with_reducible exact impl_groupsOf.mono _ _)
      | (with_reducible exact LeO.refl _)
      | (with_reducible exact LeO.none _)
      | (with_reducible refine LeO.ite ?_ ?_)
      | (with_reducible refine LeO.bind ?_ (fun _ => ?_))
      | exact ih0 _ _ _ _
      | exact ih1 _ _ _ _ _ _ _ _
      | exact impl_groupsOf.mono _ _
      | exact LeO.none _
      | refine LeO.ite ?_ ?_
      | refine LeO.bind ?_ (fun _ => ?_)
    · intro y0 y1 y2 y3 y4 y5 y6 y7
      unfold impl_sizeOfEach.l1
      repeat' first
      | (with_reducible exact ih0 _ _ _ _)
      | (with_reducible exact ih1 _ _ _ _ _ _ _ _)
      | (with_reducible exact impl_groupsOf.mono _ _)
      | (with_reducible exact LeO.refl _)
      | (with_reducible exact LeO.none _)
      | (with_reducible refine LeO.ite ?_ ?_)
      | (with_reducible refine LeO.bind ?_ (fun _ => ?_))
      | exact ih0 _ _ _ _
      | exact ih1 _ _ _ _ _ _ _ _
      | exact impl_groupsOf.mono _ _
      | exact LeO.none _
      | refine LeO.ite ?_ ?_
      | refine LeO.bind ?_ (fun _ => ?_)
theorem impl_sizeOfEach.mono : ∀ a0 k, LeO (impl_sizeOfEach.f k a0) (impl_sizeOfEach.f (k + 1) a0) := by
  intro a0 k
  obtain ⟨ih0, ih1⟩ := impl_sizeOfEach.mono_l k
  unfold impl_sizeOfEach.f
  repeat' first
      | (with_reducible exact ih0 _ _ _ _)
      | (with_reducible exact ih1 _ _ _ _ _ _ _ _)
      | (with_reducible exact impl_groupsOf.mono _ _)
      | (with_reducible exact LeO.refl _)
      | (with_reducible exact LeO.none _)
      | (with_reducible refine LeO.ite ?_ ?_)
      | (with_reducible refine LeO.bind ?_ (fun _ => ?_))
      | exact ih0 _ _ _ _
      | exact ih1 _ _ _ _ _ _ _ _
      | exact impl_groupsOf.mono _ _
      | exact LeO.none _
      | refine LeO.ite ?_ ?_
      | refine LeO.bind ?_ (fun _ => ?_)
set_option maxHeartbeats 8000000 in
set_option maxRecDepth 100000 in
theorem impl_sizeOfEach.calls (k : Nat) (A0 : Option Addr) (c0 : Nat) (l0 : List Int) (r : List Int) (w : World) (hr0 : Kd.C (Kd.int .i64) w A0 l0.length l0) (hc0 : l0.length ≤ c0) (h : impl_sizeOfEach.f k l0 = some r) :
    Calls Try.prog 73 #[.slice A0 l0.length c0] w fun e w' => ∃ v0_ : Value, e = .returned (v0_) ∧ Kd.R (Kd.int .i64) 3 w' w.heap.size (fun _ => True) v0_ r ∧ Below w.heap.size w w' := by
  have HR0 := Aside0.mk hr0
  have HC0 := Aside0.mk hc0
  clear hr0 hc0
  have HB := Aside0.mk (Below.refl w.heap.size w)
  have H : (if 0 ≤ (l0.length : Int) then (if ((l0.length : Int) : Int).toNat ≤ 35184372088832 then ((impl_groupsOf.f k l0).bind fun t245 => (impl_sizeOfEach.l0 k (List.replicate ((l0.length : Int) : Int).toNat 0) t245 (t245.length : Int) 0)) else (none)) else (none)) = some r := h
  clear h
  by_cases c2 : 0 ≤ (l0.length : Int)
  · rw [if_pos c2] at H
    have c2b0 := eq_true c2
    have c2b1 : decide (0 ≤ (l0.length : Int)) = true := decide_eq_true c2
    clear c2
    by_cases c3 : ((l0.length : Int) : Int).toNat ≤ 35184372088832
    · rw [if_pos c3] at H
      have c3b0 := eq_true c3
      have c3b1 : decide (((l0.length : Int) : Int).toNat ≤ 35184372088832) = true := decide_eq_true c3
      clear c3
      obtain ⟨y242, hy242⟩ : ∃ y_ : List Int, y_ = (List.replicate ((l0.length : Int) : Int).toNat 0) := ⟨_, rfl⟩
      replace H : ((impl_groupsOf.f k l0).bind fun t245 => (impl_sizeOfEach.l0 k y242 t245 (t245.length : Int) 0)) = some r := by first | (rw [hy242]; with_reducible exact H) | (have H2_ := (Option.bind_some _ _).symm.trans H; rw [hy242]; with_reducible exact H2_) | (have H2_ := (Option.bind_some _ _).symm.trans H; with_reducible exact H2_) | with_reducible exact H | (rw [hy242]; exact H) | exact H
      have Ny242 := Aside0.mk hy242
      clear hy242
      replace H := Option.bind_eq_some_iff.mp H
      obtain ⟨t245, A40, H⟩ := H
      replace H : (impl_sizeOfEach.l0 k y242 t245 (t245.length : Int) 0) = some r := H
      have A4 := Aside0.mk A40
      clear A40
      have H' := Aside0.mk H
      clear H
      go_enter Try.func73, Try.ntmps73
      go_wp2_with (first | ((with_reducible refine gate_dst (N := 10) rfl ?_); refine Kd.R_make (Kd.int .i64) _ 3 rfl (N := 10) rfl 32 _ _ rfl (l0.length : Int) rfl rfl Try.underlying32 (.int .i64 0) 8 info3 rfl (by decide) (by omega) 0 (ok := fun _ => True) (okp := fun _ => True) rfl (fun _ hk => hk) trivial (of_decide_eq_true (by first | (with_reducible assumption) | assumption)) (Nat.le_trans (Nat.mul_le_mul_right _ (of_decide_eq_true (by first | (with_reducible assumption) | assumption) : (l0.length : Int).toNat ≤ 35184372088832)) (by omega)) (Below.refl _ _) (Nat.le_refl _) ?_; intro v243 w5 ho6 hb hg_ hnew_; clear hg_ hnew_; (first | rw [← Ny242.out] at ho6 | (simp only [Int.reduceToNat] at ho6; rw [← Ny242.out] at ho6)); have n0_ := Aside0.mk (Kd.R_lower ho6 (below_size (by repeat (first | (with_reducible first | exact HB.out | apply below_alloc | apply pw_below_drewN | apply below_drew1) | exact HB.out)))); have n1_ := Aside0.mk (below_step (by repeat (first | (with_reducible first | exact HB.out | apply below_alloc | apply pw_below_drewN | apply below_drew1) | exact HB.out)) hb); clear HB; have HO244 := n0_; have HB := n1_; clear n0_ n1_; clear hb ho6) | ((with_reducible refine gate_callee (f := 84) rfl ?_); refine goesL_ (some 12) rfl rfl Try.func84 (by kernel_rfl) rfl #[.slice A0 l0.length c0] rfl (by (try simp only [List.map_toArray, List.map_cons, List.map_nil]); first | done | rfl | (simp only [List.length_drop, List.length_take]; rfl) | (simp; done) | (refine congrArg Value.bool ?_; simp; done) | (refine congrArg (fun z_ => #[Value.bool z_]) ?_; simp; done)) ?_; (with_reducible refine (impl_groupsOf.calls k _ _ l0 t245 _ ?side1 ?side2 A4.out).mono ?_); (case side1 => repeat (first | exact (Kd.C_below HR0.out HB.out) | (with_reducible refine Kd.C_alloc ?_ _) | (with_reducible refine Kd.C_drewN ?_ _) | (with_reducible refine Kd.C_drew ?_))); (case side2 => exact HC0.out); rintro e w7 ⟨v246, rfl, ho0, hb⟩; refine ⟨_, rfl, ?_⟩; have n0_ := Aside0.mk (Kd.R_below (by (with_reducible repeat (first | apply Kd.R_alloc | apply Kd.R_drewN | apply Kd.R_drew)); exact HO244.out) hb); have n1_ := Aside0.mk (Kd.S_lower (Kd.S_new' ho0 (Kd.R_lt (by (with_reducible repeat (first | apply Kd.R_alloc | apply Kd.R_drewN | apply Kd.R_drew)); exact HO244.out))) (below_size (by repeat (first | (with_reducible first | exact HB.out | apply below_alloc | apply pw_below_drewN | apply below_drew1) | exact HB.out)))); have n2_ := Aside0.mk (below_step (by repeat (first | (with_reducible first | exact HB.out | apply below_alloc | apply pw_below_drewN | apply below_drew1) | exact HB.out)) hb); clear HO244; clear HB; have HO244 := n0_; have HO247 := n1_; have HB := n2_; clear n0_ n1_ n2_; (try clear hb); (try clear hb2); (try clear hk); (try clear hi); (try clear ho0); obtain ⟨Ao8, co8, eo8⟩ := Kd.S_slice HO247.out; subst eo8))
      go_loopg [14] k (fun kq v14 w' => ∃ (x3_1 : List Int) (x14_1 : Int), v14 = .int .i64 x14_1 ∧ Aside0 (impl_sizeOfEach.l0 kq x3_1 t245 (t245.length : Int) x14_1 = some r) ∧ Aside0 (kq ≤ k) ∧ Aside0 (Kd.R (Kd.int .i64) 3 w' w.heap.size (fun _ => True) v243 x3_1) ∧ Aside0 (Kd.S (Kd.slice 3 (Kd.int .i64)) 32 w' w.heap.size (fun k_ => some k_ ≠ (v243 : Value).ownBlock) (.slice Ao8 t245.length co8) t245) ∧ Aside0 (Below w.heap.size w w'))
      case atStart => exact ⟨(y242), (0), (by first | rfl | (simp; done) | (simp [*]; done)), H', ⟨Nat.le_refl _⟩, ⟨by (with_reducible repeat (first | apply Kd.R_alloc | apply Kd.R_drewN | apply Kd.R_drew)); exact HO244.out⟩, ⟨by (with_reducible repeat (first | apply Kd.S_alloc | apply Kd.S_drewN | apply Kd.S_drew)); exact Kd.S_mono HO247.out (fun _ hk => hk.2)⟩, ⟨by repeat (first | (with_reducible first | exact HB.out | apply below_alloc | apply pw_below_drewN | apply below_drew1) | exact HB.out)⟩⟩
      case round =>
        clear H'
        try clear c2
        try clear c2b0
        try clear c2b1
        try clear p2
        try clear c3
        try clear c3b0
        try clear c3b1
        try clear c7
        try clear c8
        obtain ⟨x3_1, x14_1, rfl, HA, HK1, HO_3, HO_12, HB⟩ := hrel
        cases gk with
        | zero => exact absurd HA.out (by simp [impl_sizeOfEach.l0])
        | succ k1 =>
          have H := HA.out
          clear HA
          simp only [impl_sizeOfEach.l0] at H
          by_cases c9 : x14_1 < (t245.length : Int)
          · rw [if_pos c9] at H
            have c9b0 : decide (x14_1 < (t245.length : Int)) = true := decide_eq_true c9
            clear c9
            by_cases c10 : 0 ≤ x14_1
            · rw [if_pos c10] at H
              have c10b0 : decide (0 ≤ x14_1) = true := decide_eq_true c10
              clear c10
              by_cases c11 : x14_1 < (t245.length : Int)
              · rw [if_pos c11] at H
                have c11b0 : decide (x14_1 < (t245.length : Int)) = true := decide_eq_true c11
                clear c11
                have H' := Aside0.mk H
                clear H
                have p248 : 0 ≤ (x14_1 : Int) := of_decide_eq_true (by first | (with_reducible assumption) | assumption)
                have q248 : x14_1 < (t245.length : Int) := of_decide_eq_true (by first | (with_reducible assumption) | assumption)
                obtain ⟨ad248, A248_0, c248_0, e248, hx248_0, hl248_0, hi248_0⟩ := at_L1 (Kd.S_reads' HO_12.out).2.2 x14_1 p248 q248
                cases e248
                obtain ⟨ce248, hce248, hMe248, hcc248⟩ := Kd.S_get HO_12.out [] x14_1 p248 (by first | exact q248 | exact of_decide_eq_true (by first | (with_reducible assumption) | assumption) | (have e_ := (Kd.S_reads' HO_12.out).1; omega))
                obtain ⟨ve248_0, rfl, ge248_0⟩ := hMe248
                have hv248_0 := hcc248 0 _ rfl
                rw [Nat.add_zero, show ((Kd.slice 3 (Kd.int .i64))).sz = 1 from rfl, Nat.mul_one] at hv248_0
                replace hv248_0 := Option.some.inj (hv248_0.symm.trans hx248_0)
                rw [hv248_0] at ge248_0
                have HL248_0 := Aside0.mk (show Kd.R (Kd.int .i64) 3 _ _ _ _ (rd_L1 t245 x14_1) from ge248_0)
                clear hv248_0 ge248_0
                clear hcc248 hce248
                have HR248_0 := Aside0.mk hi248_0
                have HC248_0 := Aside0.mk hl248_0
                clear hi248_0 hl248_0
                replace p248 := eq_true p248
                replace q248 := eq_true q248
                go_wp2
                go_loopg [20] k1 (fun kq v20 w' => ∃ (x3_2 : List Int) (x20_2 : Int), v20 = .int .i64 x20_2 ∧ Aside0 (impl_sizeOfEach.l1 kq x3_2 (rd_L1 t245 x14_1) t245 (t245.length : Int) x14_1 (rd_L1 t245 x14_1) ((rd_L1 t245 x14_1).length : Int) x20_2 = some r) ∧ Aside0 (kq ≤ k1) ∧ Aside0 (Kd.R (Kd.int .i64) 3 w' w.heap.size (fun _ => True) v243 x3_2) ∧ Aside0 (Kd.S (Kd.slice 3 (Kd.int .i64)) 32 w' w.heap.size (fun k_ => some k_ ≠ (v243 : Value).ownBlock) (.slice (some ad248) t245.length co8) t245) ∧ Aside0 (Kd.R (Kd.int .i64) 3 w' w.heap.size (fun k_ => some k_ ≠ (v243 : Value).ownBlock) (.slice A248_0 (rd_L1 t245 x14_1).length c248_0) (rd_L1 t245 x14_1)) ∧ Aside0 (Below w.heap.size w w'))
                case atStart => exact ⟨(x3_1), (0), (by first | rfl | (simp; done) | (simp [*]; done)), H', ⟨Nat.le_refl _⟩, ⟨by (with_reducible repeat (first | apply Kd.R_alloc | apply Kd.R_drewN | apply Kd.R_drew)); exact HO_3.out⟩, ⟨by (with_reducible repeat (first | apply Kd.S_alloc | apply Kd.S_drewN | apply Kd.S_drew)); exact HO_12.out⟩, ⟨Kd.R_mono HL248_0.out (fun _ hk => by first | exact hk.1.1 | exact hk.1.2 | exact hk.1 | exact hk.2)⟩, ⟨by repeat (first | (with_reducible first | exact HB.out | apply below_alloc | apply pw_below_drewN | apply below_drew1) | exact HB.out)⟩⟩
                case round =>
                  clear H'
                  try clear c1
                  try clear c2
                  try clear c2b0
                  try clear c2b1
                  try clear p2
                  try clear q2
                  try clear hx2
                  try clear c3
                  try clear c3b0
                  try clear c3b1
                  try clear c7
                  try clear c8
                  try clear c9
                  try clear c9b0
                  try clear c10
                  try clear c10b0
                  try clear c11
                  try clear c11b0
                  try clear hx248_0
                  try clear p2
                  try clear p248
                  try clear q248
                  obtain ⟨x3_2, x20_2, rfl, HA, HK2, HO_3, HO_12, HE248, HB⟩ := hrel
                  cases gk with
                  | zero => exact absurd HA.out (by simp [impl_sizeOfEach.l1])
                  | succ k2 =>
                    have H := HA.out
                    clear HA
                    simp only [impl_sizeOfEach.l1] at H
                    by_cases c12 : x20_2 < ((rd_L1 t245 x14_1).length : Int)
                    · rw [if_pos c12] at H
                      have c12b0 : decide (x20_2 < ((rd_L1 t245 x14_1).length : Int)) = true := decide_eq_true c12
                      clear c12
                      by_cases c13 : 0 ≤ x20_2
                      · rw [if_pos c13] at H
                        have c13b0 : decide (0 ≤ x20_2) = true := decide_eq_true c13
                        clear c13
                        by_cases c14 : x20_2 < ((rd_L1 t245 x14_1).length : Int)
                        · rw [if_pos c14] at H
                          have c14b0 : decide (x20_2 < ((rd_L1 t245 x14_1).length : Int)) = true := decide_eq_true c14
                          clear c14
                          by_cases c15 : 0 ≤ (rd (rd_L1 t245 x14_1) x20_2)
                          · rw [if_pos c15] at H
                            have c15b0 : decide (0 ≤ (rd (rd_L1 t245 x14_1) x20_2)) = true := decide_eq_true c15
                            clear c15
                            by_cases c16 : (rd (rd_L1 t245 x14_1) x20_2) < (x3_2.length : Int)
                            · rw [if_pos c16] at H
                              have c16b0 : decide ((rd (rd_L1 t245 x14_1) x20_2) < (x3_2.length : Int)) = true := decide_eq_true c16
                              clear c16
                              obtain ⟨y250, hy250⟩ : ∃ y_ : List Int, y_ = (x3_2.set ((rd (rd_L1 t245 x14_1) x20_2) : Int).toNat ((rd_L1 t245 x14_1).length : Int)) := ⟨_, rfl⟩
                              replace H : (impl_sizeOfEach.l1 k2 y250 (rd_L1 t245 x14_1) t245 (t245.length : Int) x14_1 (rd_L1 t245 x14_1) ((rd_L1 t245 x14_1).length : Int) (wrap64 (x20_2 + 1))) = some r := by first | (rw [hy250]; with_reducible exact H) | (have H2_ := (Option.bind_some _ _).symm.trans H; rw [hy250]; with_reducible exact H2_) | (have H2_ := (Option.bind_some _ _).symm.trans H; with_reducible exact H2_) | with_reducible exact H | (rw [hy250]; exact H) | exact H
                              have Ny250 := Aside0.mk hy250
                              clear hy250
                              have H' := Aside0.mk H
                              clear H
                              have p249 : 0 ≤ (x20_2 : Int) := of_decide_eq_true (by first | (with_reducible assumption) | assumption)
                              have q249 : x20_2 < ((rd_L1 t245 x14_1).length : Int) := of_decide_eq_true (by first | (with_reducible assumption) | assumption)
                              obtain ⟨ad249, e249, hx249_0⟩ := Kd.at_int (Kd.R_reads' HE248.out).2.2 x20_2 p249 q249
                              cases e249
                              replace p249 := eq_true p249
                              replace q249 := eq_true q249
                              have p17 : 0 ≤ ((rd (rd_L1 t245 x14_1) x20_2) : Int) := of_decide_eq_true (by first | (with_reducible assumption) | assumption)
                              have q17 : ((rd (rd_L1 t245 x14_1) x20_2) : Int) < ((x3_2.length : Int) : Int) := of_decide_eq_true (by first | (with_reducible assumption) | assumption)
                              obtain ⟨go17, co17, eo17, gb17, gl17, cl17, HG17⟩ := Kd.R_form HO_3.out (by omega)
                              (first | cases eo17 | (injection eo17 with ea_ en_ ec_; (first | subst ea_ | (injection ea_ with ea_; subst ea_)); subst ec_; clear en_))
                              have GB17 := Aside0.mk gb17
                              have GG17 := Aside0.mk HG17
                              clear gb17 gl17 HG17
                              obtain ⟨hx17_0, hf17_0⟩ := Kd.R_celln 0 HO_3.out ((rd (rd_L1 t245 x14_1) x20_2) : Int) p17 q17
                              replace p17 := eq_true p17
                              replace q17 := eq_true q17
                              have HP18 := Kd.R_putg HO_3.out ((rd (rd_L1 t245 x14_1) x20_2) : Int) ((rd_L1 t245 x14_1).length : Int)
                              go_wp2_with (first | ((with_reducible refine gate_store (t := 3) (p := 28) rfl ?_); refine store_event (t := 3) (p := 28) (v := ?vo_w19) (w1 := (wr.setCell ⟨go17, ((rd (rd_L1 t245 x14_1) x20_2) : Int).toNat, none⟩ (.int .i64 ((rd_L1 t245 x14_1).length : Int)))) ?hg ?ho ?hn ?hr ?_; (case ho => rfl); (case hg => rfl); (case hn => rfl); (case hr => first | (go_simp; done) | (go_simp; rfl)); intro w19 hw; have hg : wr.grownBy w19 (some go17) := (by rw [hw]; exact HP18.2); have hp_ : Kd.R (Kd.int .i64) 3 w19 w.heap.size (fun _ => True) (.slice (some ⟨go17, 0, none⟩) x3_2.length co17) y250 := (by rw [hw, Ny250.out]; exact HP18.1); clear HP18; have n0_ := Aside0.mk (hp_); have n1_ := Aside0.mk (Kd.S_after (v := (.slice (some ⟨go17, 0, none⟩) x3_2.length co17)) (v1 := (.slice (some ⟨go17, 0, none⟩) x3_2.length co17)) (ok := (fun _ => True)) (by (with_reducible repeat (first | apply Kd.S_alloc | apply Kd.S_drewN | apply Kd.S_drew)); exact Kd.S_mono HO_12.out (fun _ hk => ⟨trivial, hk⟩)) hg (.inl rfl)); have n2_ := Aside0.mk ((by rw [hw]; exact below_set (HB.out) GB17.out : Below w.heap.size w w19)); have nE_ := Aside0.mk (Kd.R_grown HE248.out hg (fun k_ hk => by simpa [Value.ownBlock] using hk)); clear HE248; have HE248 := nE_; clear nE_; clear HO_3; clear HO_12; clear HB; have HO_3 := n0_; have HO_12 := n1_; have HB := n2_; clear n0_ n1_ n2_; clear hg hw hp_))
                              go_roundg k2
                              case measure => have := HK1.out; have := HK2.out; omega
                              case rel => exact ⟨(y250), (wrap64 (x20_2 + 1)), (by first | rfl | (simp; done) | (simp [*]; done)), H', ⟨by have := HK1.out; have := HK2.out; omega⟩, ⟨by (with_reducible repeat (first | apply Kd.R_alloc | apply Kd.R_drewN | apply Kd.R_drew)); exact HO_3.out⟩, ⟨by (with_reducible repeat (first | apply Kd.S_alloc | apply Kd.S_drewN | apply Kd.S_drew)); exact Kd.S_mono HO_12.out (fun _ hk => hk.2)⟩, ⟨HE248.out⟩, ⟨by repeat (first | (with_reducible first | exact HB.out | apply below_alloc | apply pw_below_drewN | apply below_drew1) | exact HB.out)⟩⟩
                            · rw [if_neg c16] at H
                              exact absurd H (by simp)
                          · rw [if_neg c15] at H
                            exact absurd H (by simp)
                        · rw [if_neg c14] at H
                          exact absurd H (by simp)
                      · rw [if_neg c13] at H
                        exact absurd H (by simp)
                    · rw [if_neg c12] at H
                      have c12b0 : decide (x20_2 < ((rd_L1 t245 x14_1).length : Int)) = false := decide_eq_false c12
                      clear c12
                      have H' := Aside0.mk H
                      clear H
                      go_wp2
                      go_roundg k2
                      case measure => have := HK1.out; have := HK2.out; omega
                      case rel => exact ⟨(x3_2), (wrap64 (x14_1 + 1)), (by first | rfl | (simp; done) | (simp [*]; done)), H', ⟨by have := HK1.out; have := HK2.out; omega⟩, ⟨by (with_reducible repeat (first | apply Kd.R_alloc | apply Kd.R_drewN | apply Kd.R_drew)); exact HO_3.out⟩, ⟨by (with_reducible repeat (first | apply Kd.S_alloc | apply Kd.S_drewN | apply Kd.S_drew)); exact HO_12.out⟩, ⟨by repeat (first | (with_reducible first | exact HB.out | apply below_alloc | apply pw_below_drewN | apply below_drew1) | exact HB.out)⟩⟩
              · rw [if_neg c11] at H
                exact absurd H (by simp)
            · rw [if_neg c10] at H
              exact absurd H (by simp)
          · rw [if_neg c9] at H
            have c9b0 : decide (x14_1 < (t245.length : Int)) = false := decide_eq_false c9
            clear c9
            obtain rfl := Option.some.inj H
            go_wp2
            go_ret
            exact ⟨_, by first | rfl | (simp [errW_none, errW_some] <;> rfl) | (simp [*, errW_none, errW_some] <;> rfl), by (with_reducible repeat (first | apply Kd.R_alloc | apply Kd.R_drewN | apply Kd.R_drew)); exact HO_3.out, by repeat (first | (with_reducible first | exact HB.out | apply below_alloc | apply pw_below_drewN | apply below_drew1) | exact HB.out)⟩
    · rw [if_neg c3] at H
      exact absurd H (by simp)
  · rw [if_neg c2] at H
    exact absurd H (by simp)

/-! ### impl_tells: function 51 -/
/-- The keys of labels. -/
def impl_tells.keys (s t : List Int) : List Int := List.zipWith (fun x y => x * 13 + y) s t
def impl_tells.f (k : Nat) (l0 l1 : List Int) : Option Bool := (impl_sizeOfEach.f k l0).bind fun s => (impl_sizeOfEach.f k l1).bind fun t => if s.length ≤ t.length ∧ (∀ x ∈ s, 0 ≤ x ∧ x ≤ 12) ∧ (∀ x ∈ t, 0 ≤ x ∧ x ≤ 12) then some (decide (impl_tells.keys s t).Nodup) else none
theorem impl_tells.mono : ∀ a0 a1 k, LeO (impl_tells.f k a0 a1) (impl_tells.f (k + 1) a0 a1) := fun a0 a1 k => LeO.bind (impl_sizeOfEach.mono _ _) (fun _ => LeO.bind (impl_sizeOfEach.mono _ _) (fun _ => LeO.refl _))
/-- The array behind keys: which have been seen. -/
def impl_tells.bits (ks : List Int) : Array Value := ((List.range 169).map (fun (j : Nat) => Value.bool (decide ((j : Int) ∈ ks)))).toArray
theorem impl_tells.bits_get (ks : List Int) {j : Nat} (h : j < 169) : (impl_tells.bits ks)[j]? = some (.bool (decide ((j : Int) ∈ ks))) := by
  simp [impl_tells.bits, h]
theorem impl_tells.bits_set (ks : List Int) {j : Nat} (h : j < 169) : (impl_tells.bits ks).setIfInBounds j (.bool true) = impl_tells.bits (ks ++ [(j : Int)]) := by
  apply Array.ext_getElem?
  intro i
  rw [Array.getElem?_setIfInBounds]
  by_cases hi : i < 169
  · rw [impl_tells.bits_get _ hi, impl_tells.bits_get _ hi]
    by_cases e : j = i
    · subst e; simp [impl_tells.bits, h]
    · have e2 : ¬ (i : Int) = (j : Int) := by omega
      simp [e, e2]
  · have n1 : (impl_tells.bits ks)[i]? = none := by simp [impl_tells.bits, hi]
    have n2 : (impl_tells.bits (ks ++ [(j : Int)]))[i]? = none := by simp [impl_tells.bits, hi]
    rw [n1, n2, if_neg (by omega)]
theorem impl_tells.keys_len (s t : List Int) (h : s.length ≤ t.length) : (impl_tells.keys s t).length = s.length := by simp [impl_tells.keys]; omega
theorem impl_tells.keys_get (s t : List Int) {x : Nat} (h : x < s.length) (h2 : x < t.length) : (impl_tells.keys s t)[x]? = some (rd s (x : Int) * 13 + rd t (x : Int)) := by
  simp [impl_tells.keys, rd, List.getD_eq_getElem?_getD, h, h2, List.getElem?_zipWith]
theorem impl_tells.info : (Try.prog.info? 68).map (fun i => (i.zero, i.size)) = some (some (.agg (impl_tells.bits [])), 169) := by kernel_rfl
set_option maxHeartbeats 1000000 in
set_option maxRecDepth 100000 in
theorem impl_tells.calls (k : Nat) (A0 : Option Addr) (c0 : Nat) (l0 : List Int) (A1 : Option Addr) (c1 : Nat) (l1 : List Int) (r : Bool) (w : World) (hr0 : Kd.C (Kd.int .i64) w A0 l0.length l0) (hc0 : l0.length ≤ c0) (hr1 : Kd.C (Kd.int .i64) w A1 l1.length l1) (hc1 : l1.length ≤ c1) (h : impl_tells.f k l0 l1 = some r) :
    Calls Try.prog 51 #[.slice A0 l0.length c0, .slice A1 l1.length c1] w fun e w' => e = .returned (.bool r) ∧ Below w.heap.size w w' := by
  have HR0 := Aside0.mk hr0
  have HC0 := Aside0.mk hc0
  have HR1 := Aside0.mk hr1
  have HC1 := Aside0.mk hc1
  clear hr0 hc0 hr1 hc1
  unfold impl_tells.f at h
  replace h := Option.bind_eq_some_iff.mp h
  obtain ⟨s, hs, h⟩ := h
  replace h := Option.bind_eq_some_iff.mp h
  obtain ⟨t, ht, h⟩ := h
  by_cases hg : s.length ≤ t.length ∧ (∀ x ∈ s, 0 ≤ x ∧ x ≤ 12) ∧ (∀ x ∈ t, 0 ≤ x ∧ x ≤ 12)
  case neg => rw [if_neg hg] at h; cases h
  rw [if_pos hg] at h
  have HE := Aside0.mk (Option.some.inj h)
  have HG := Aside0.mk hg
  have HS := Aside0.mk hs
  have HT := Aside0.mk ht
  clear h hg hs ht
  have HB := Aside0.mk (Below.refl w.heap.size w)
  have hz : ∀ W : World, (zeroValue 68).run Try.prog W = .ok (.agg (impl_tells.bits [])) W := (zero_of_info impl_tells.info).1
  have hst : ∀ W : World, (storeCells ⟨W.heap.size, 0, none⟩ (impl_tells.bits []).toList 0).run Try.prog (W.alloc (.cells (impl_tells.bits []) 68)) = .ok () (W.alloc (.cells (impl_tells.bits []) 68)) := fun W => run_storeCells_new (P := Try.prog) W 68 _ _ ((zero_of_info impl_tells.info).2.trans (by simp [impl_tells.bits])) rfl (by simp [impl_tells.bits, Array.all_eq_true]; intros; rfl)
  go_enter Try.func51, Try.ntmps51
  go_wp2_with fail
  refine (impl_sizeOfEach.calls k A0 c0 l0 s w HR0.out HC0.out HS.out).mono ?_
  rintro e w1 ⟨v1, rfl, hv, hb⟩
  obtain ⟨a1, d1, rfl⟩ := Kd.R_slice hv
  have O1 := Aside0.mk hv
  have B1 := Aside0.mk hb
  clear hv hb
  go_wp2_with fail
  refine (impl_sizeOfEach.calls k A1 c1 l1 t w1 (Kd.C_below HR1.out B1.out) HC1.out HT.out).mono ?_
  rintro e w2 ⟨v2, rfl, hv, hb⟩
  obtain ⟨a2, d2, rfl⟩ := Kd.R_slice hv
  have O2 := Aside0.mk hv
  have B2 := Aside0.mk hb
  clear hv hb
  have HX := Aside0.mk (⟨Nat.zero_le _, Nat.sub_le _ _⟩ : 0 ≤ s.length ∧ s.length - 0 ≤ s.length)
  go_wp2
  have N2 : Aside0 (Below w2.heap.size w2 (w2.alloc (.cells (impl_tells.bits []) 68))) := ⟨below_alloc (Below.refl _ _) _⟩
  go_loopg [18] s.length (fun gg v18 w' => ∃ x : Nat, v18 = .int .i64 (x : Int) ∧ Aside0 (x ≤ s.length ∧ s.length - x ≤ gg) ∧ Aside0 (((impl_tells.keys s t).take x).Nodup) ∧ Aside0 (w'.heap[w2.heap.size]? = some (.cells (impl_tells.bits ((impl_tells.keys s t).take x)) 68 (0, 0))) ∧ Aside0 (Below w.heap.size w w') ∧ Aside0 (Kd.R (Kd.int .i64) 3 w' w.heap.size (fun k => k < w2.heap.size) (.slice a1 s.length d1) s) ∧ Aside0 (Kd.R (Kd.int .i64) 3 w' w1.heap.size (fun k => k < w2.heap.size) (.slice a2 t.length d2) t))
  case atStart => exact ⟨0, rfl, HX, ⟨by simp⟩, ⟨heap_alloc_new _ _⟩, ⟨below_alloc (below_step B1.out B2.out) _⟩, ⟨Kd.R_below (Kd.R_mono (Kd.R_bound (Kd.R_below O1.out B2.out)) (fun _ hk => hk.2.2.1)) N2.out⟩, ⟨Kd.R_below (Kd.R_mono (Kd.R_bound O2.out) (fun _ hk => hk.2.2.1)) N2.out⟩⟩
  case round =>
    clear HX N2 O1 O2 hz hst
    obtain ⟨x, rfl, HX, HN, HC, HBW, O1, O2⟩ := hrel
    by_cases hlt : x < s.length
    · have hlt2 : x < t.length := Nat.lt_of_lt_of_le hlt HG.out.1
      have HL := Aside0.mk hlt
      have hs1 : 0 ≤ rd s (x : Int) ∧ rd s (x : Int) ≤ 12 := HG.out.2.1 _ (by simp [rd, List.getD_eq_getElem?_getD, hlt])
      have ht1 : 0 ≤ rd t (x : Int) ∧ rd t (x : Int) ≤ 12 := HG.out.2.2 _ (by simp [rd, List.getD_eq_getElem?_getD, hlt2])
      have hk := impl_tells.keys_get s t hlt hlt2
      obtain ⟨g1, e1, hx1⟩ := Kd.at_int (Kd.R_reads' O1.out).2.2 (x : Int) (by omega) (by omega)
      obtain ⟨g2, e2, hx2⟩ := Kd.at_int (Kd.R_reads' O2.out).2.2 (x : Int) (by omega) (by omega)
      subst e1 e2
      rw [Int.toNat_natCast] at hx1 hx2
      generalize rd s (x : Int) = p at hx1 hs1 hk
      generalize rd t (x : Int) = q at hx2 ht1 hk
      obtain ⟨p0, p1⟩ := hs1
      obtain ⟨q0, q1⟩ := ht1
      have b0 : 0 ≤ p * 13 + q := by omega
      have b1 : p * 13 + q < 169 := by omega
      have hcell := (blk_cell HC.out (p * 13 + q).toNat).trans (impl_tells.bits_get _ (by omega))
      rw [Int.toNat_of_nonneg b0] at hcell
      have HK := Aside0.mk hk
      clear hk
      have d0 : decide ((x : Int) < (s.length : Int)) = true := decide_eq_true (by omega)
      have d1 : decide (x < s.length) = true := decide_eq_true hlt
      have d2 : decide ((x : Int) < (t.length : Int)) = true := decide_eq_true (by omega)
      have d3 : decide (x < t.length) = true := decide_eq_true hlt2
      have htk := HK.out
      have hsucc : (impl_tells.keys s t).take (x + 1) = (impl_tells.keys s t).take x ++ [p * 13 + q] := by rw [List.take_add_one, HK.out]; rfl
      have HSU := Aside0.mk hsucc
      clear hsucc htk
      by_cases hm : (p * 13 + q) ∈ (impl_tells.keys s t).take x
      · rw [decide_eq_true hm] at hcell
        have HM := Aside0.mk hm
        clear hm
        go_wp2
        go_ret
        have hnd : decide (impl_tells.keys s t).Nodup = false := decide_eq_false (fun hnd => by
          have h3 := (List.Nodup.sublist (List.take_sublist (x + 1) _) hnd)
          rw [HSU.out, List.nodup_append] at h3
          exact h3.2.2 _ HM.out _ List.mem_cons_self rfl)
        exact ⟨by rw [← HE.out, hnd]; rfl, HBW.out⟩
      · rw [decide_eq_false hm] at hcell
        have HM := Aside0.mk hm
        clear hm
        have hfz : wr.frozen? ⟨w2.heap.size, (p * 13 + q).toNat, none⟩ = false := blk_frozen HC.out _
        go_wp2
        have hmax := (Kd.R_reads' O1.out).2.2.2.1
        have hup : wrap64 ((x : Int) + 1) = ((x + 1 : Nat) : Int) := by unfold wrap64; omega
        go_roundg (s.length - (x + 1))
        case measure => have := HX.out; omega
        case rel =>
          refine ⟨x + 1, by rw [hup], ⟨by omega, by omega⟩, ⟨?_⟩, ⟨?_⟩, ⟨below_set HBW.out (Nat.le_trans B1.out.size B2.out.size)⟩, ⟨Kd.R_far O1.out (fun k hk => Nat.ne_of_lt hk) _⟩, ⟨Kd.R_far O2.out (fun k hk => Nat.ne_of_lt hk) _⟩⟩
          · rw [HSU.out, List.nodup_append]
            refine ⟨HN.out, by simp, fun a ha b hb => ?_⟩
            rw [List.mem_singleton] at hb
            subst hb
            intro e
            subst e
            exact HM.out ha
          · have h3 := blk_set HC.out (p * 13 + q).toNat (.bool true)
            rw [impl_tells.bits_set _ (by omega), Int.toNat_of_nonneg b0, ← HSU.out] at h3
            exact h3
    · have d0 : decide ((x : Int) < (s.length : Int)) = false := decide_eq_false (by omega)
      have d1 : decide (x < s.length) = false := decide_eq_false hlt
      have HL := Aside0.mk hlt
      clear hlt
      go_wp2
      go_ret
      have h3 := HN.out
      rw [List.take_of_length_le (by rw [impl_tells.keys_len s t HG.out.1]; have := HL.out; omega)] at h3
      exact ⟨by rw [← HE.out, decide_eq_true h3]; rfl, HBW.out⟩


-- NOT PRINTED: function 49 (impl_CountPartners_1)

/-! ### impl_CountPartners: function 28 -/
def impl_CountPartners.T1 : Bool × List (List Nat × List Nat) := (true, [([], []), ([], []), ([], []), ([1, 2], [1, 2]), ([3, 3], [3]), ([0, 4], [0, 4]), ([5, 4, 0, 1, 2, 3, 4, 5], [5])])
def impl_CountPartners.B1 : List Nat := [0, 0, 0, 6, 14, 31, 63]
theorem impl_CountPartners.tab1 : rtab .any (opsOf Try.f49 1) = impl_CountPartners.T1 := by kernel_rfl
theorem impl_CountPartners.bits1 : waitsOk impl_CountPartners.T1.2 impl_CountPartners.B1 = true := by kernel_rfl
/-- One grouping more, or not. -/
def impl_CountPartners.step (k : Nat) (a : List Int) (s : Nat) (gs : List Int) : Option (Nat × Bool) := if s < 1000000000000 then (impl_tells.f k a gs).bind fun t => some (if t = true then s + 1 else s, true) else none
def impl_CountPartners.f (k : Nat) (a : List Int) : Option (Int × Bool) := (impl_IsGrouping.f k a).bind fun g => if g = true then (impl_areListed.f (a.length : Int)).bind fun t => (if t = true then (if a.length ≤ 1000 then (impl_groupings.walk (impl_CountPartners.step k a) a.length [] 0 0).bind fun r => some ((r.1 : Int), true) else none) else some (0, false)) else some (0, false)
theorem impl_CountPartners.mono_step (k : Nat) (a : List Int) (s : Nat) (gs : List Int) : LeO (impl_CountPartners.step k a s gs) (impl_CountPartners.step (k + 1) a s gs) := by
  unfold impl_CountPartners.step
  exact LeO.ite (LeO.bind (impl_tells.mono _ _ _) (fun _ => LeO.refl _)) (LeO.none _)
theorem impl_CountPartners.mono : ∀ a k, LeO (impl_CountPartners.f k a) (impl_CountPartners.f (k + 1) a) := fun a k => LeO.bind (impl_IsGrouping.mono _ _) (fun _ => LeO.ite (LeO.bind (LeO.refl _) (fun _ => LeO.ite (LeO.ite (LeO.bind (impl_groupings.walk_mono (fun s gs => impl_CountPartners.mono_step k a s gs) _ _ _ _) (fun _ => LeO.refl _)) (LeO.none _)) (LeO.refl _))) (LeO.refl _))
theorem impl_CountPartners.put_ {P : Program} {o : Oper} {a : Act} {W w1 : World} {K : Act → World → Prop} {Q : Exit → Act → World → Prop} (hN : o.dst = none) (hrun : (execOp a.eval o).run P W = .ok .skip w1) (h : K (a.put none undef) w1) : Oper.wp P o a W K Q := by
  unfold Oper.wp
  rw [hrun]
  show K (a.put o.dst undef) w1
  rw [hN]
  exact h
structure impl_CountPartners.Inv (w0 : World) (bm ba : Nat) (A : Option Addr) (c : Nat) (a : List Int) (s : Nat) (w : World) : Prop where
  arg : w.cell? ⟨ba, 0, none⟩ = some (.slice A a.length c)
  bel : Below w0.heap.size w0 w
  out : w.heap[bm]? = some (.cells #[.int .i64 (s : Int)] 3 (0, 0))
theorem impl_CountPartners.Inv.below {w0 : World} {bm ba : Nat} {A : Option Addr} {c : Nat} {a : List Int} {s : Nat} {w w' : World} (h : impl_CountPartners.Inv w0 bm ba A c a s w) (hb : Below w.heap.size w w') : impl_CountPartners.Inv w0 bm ba A c a s w' :=
  ⟨(hb.cell (World.block_lt_of_cell? w _ h.arg)).trans h.arg, below_step h.bel hb, blk_below h.out hb⟩
set_option maxHeartbeats 2000000 in
set_option maxRecDepth 100000 in
theorem impl_CountPartners.each (k : Nat) (a : List Int) (w0 : World) (B bm ba : Nat) (A : Option Addr) (c : Nat) (hC : Kd.C (Kd.int .i64) w0 A a.length a) (hc : a.length ≤ c) (hbm : bm < B) (h0 : w0.heap.size ≤ bm) (hab : ba ≠ bm) :
    impl_groupings.Each (impl_CountPartners.step k a) (impl_CountPartners.Inv w0 bm ba A c a) (fun q => q = bm) B 49 #[.pointer (some ⟨bm, 0, none⟩), .pointer (some ⟨ba, 0, none⟩)] := by
  intro s gs s' b v W hi hR hB hs
  unfold impl_CountPartners.step at hs
  split at hs
  case isFalse => cases hs
  rename_i hsl
  obtain ⟨t, ht, hs⟩ := Option.bind_eq_some_iff.mp hs
  obtain ⟨A2, c2, rfl⟩ := Kd.R_slice hR
  obtain ⟨hs1, rfl⟩ := Prod.mk.inj (Option.some.inj hs)
  have harg := hi.arg
  have hm := (blk_cell hi.out 0).trans (show _ = some (Value.int .i64 (s : Int)) from rfl)
  have HI := Aside0.mk hi
  have HR := Aside0.mk hR
  have HT := Aside0.mk ht
  have HS := Aside0.mk hs1
  have HBS := Aside0.mk hB
  have HSL := Aside0.mk hsl
  clear hi hR ht hs hs1 hB hsl
  go_enter Try.func49, Try.ntmps49
  go_wp2
  have BD := Aside0.mk (below_drew1 (Below.refl W.heap.size W))
  refine start_ (n := 7) (S := fun w' => w'.cell? ⟨bm, 0, none⟩ = some (.int .i64 (s : Int)) ∧ w'.cell? ⟨ba, 0, none⟩ = some (.slice A a.length c)) (ds := [6]) #[false, false, false, false, false, false, false] (by kernel_rfl) rfl rfl ⟨hm, harg⟩ (fun hHeld => ?_); refine with_tabW impl_CountPartners.tab1 impl_CountPartners.bits1 (fun HT_ HW_ => ?_)
  generalize W.drew = wd at BD hHeld ⊢
  refine take_ (i := 0) (N := some 5) (v := ?_) (a' := ?_) #[true, false, false, false, false, false, false] rfl rfl (take_ofW HT_.out HW_.out (by kernel_rfl)) (fun _ _ _ h => h) (Or.inl ⟨by rfl, ?_⟩) hHeld ?_ ?_
  rotate_left
  · rintro w' ⟨s0, s1⟩
    go_simp
    with_reducible rfl
  rotate_left
  · simp only [Act.put, List.setIfInBounds_toArray, List.set_cons_zero, List.set_cons_succ, i64_w, i32_w]
    rfl
  refine take_ (i := 1) (N := some 6) (v := ?_) (a' := ?_) #[true, true, false, false, false, false, false] rfl rfl (take_ofW HT_.out HW_.out (by kernel_rfl)) (fun _ _ _ h => h) (Or.inl ⟨by rfl, ?_⟩) hHeld ?_ ?_
  rotate_left
  · rintro w' ⟨s0, s1⟩
    go_simp
    with_reducible rfl
  rotate_left
  · simp only [Act.put, List.setIfInBounds_toArray, List.set_cons_zero, List.set_cons_succ, i64_w, i32_w]
    rfl
  refine pure_ (i := 2) (N := some 7) (v := ?_) (a' := ?_) #[true, true, true, false, false, false, false] rfl rfl (any_of HT_.out (by kernel_rfl)) (fun _ _ _ h => h) (Or.inl ⟨by rfl, ?_⟩) ?_ ?_
  rotate_left
  · intro w'
    go_simp
    with_reducible rfl
  rotate_left
  · simp only [Act.put, List.setIfInBounds_toArray, List.set_cons_zero, List.set_cons_succ, i64_w, i32_w]
    rfl
  refine one_ (i := 3) (N := some 8) #[true, true, true, true, false, false, false] rfl rfl (one_of HT_.out (by kernel_rfl)) (by decide) (fun K hK => ?_)
  refine goes_ Try.func51 (by kernel_rfl) rfl #[.slice A a.length c, .slice A2 gs.length c2] (by rfl) rfl rfl (by (try simp only [List.map_toArray, List.map_cons, List.map_nil]); rfl) ?_
  refine (impl_tells.calls k A c a A2 c2 gs t wd (Kd.C_below hC (below_step HI.out.bel BD.out)) hc (Kd.C_below (Kd.R_reads' HR.out).2.2 BD.out) (Kd.R_reads' HR.out).2.1 HT.out).mono ?_
  rintro e w2 ⟨rfl, hb⟩
  refine ⟨_, rfl, ?_⟩
  have B2 := Aside0.mk (below_step BD.out hb)
  have S2 : w2.cell? ⟨bm, 0, none⟩ = some (.int .i64 (s : Int)) ∧ w2.cell? ⟨ba, 0, none⟩ = some (.slice A a.length c) := ⟨(hb.cell (World.block_lt_of_cell? wd _ hHeld.1)).trans hHeld.1, (hb.cell (World.block_lt_of_cell? wd _ hHeld.2)).trans hHeld.2⟩
  clear hb
  refine hK.out _ _ S2 (fun hHeld => ?_)
  clear hK K
  refine norm_ (a' := ?_) ?_ ?_
  rotate_left
  · show Act.put _ (some 8) _ = _
    simp only [Act.put, List.setIfInBounds_toArray, List.set_cons_zero, List.set_cons_succ, i64_w, i32_w]
    rfl
  obtain ⟨q, hq, hqb⟩ : ∃ q : Int, impl_bit.f t = some q ∧ (if t = true then s + 1 else s : Nat) = (s : Int) + q ∧ 0 ≤ q ∧ q ≤ 1 := by
    unfold impl_bit.f
    cases t
    · exact ⟨0, rfl, by simp, by omega, by omega⟩
    · exact ⟨1, rfl, by simp, by omega, by omega⟩
  have HQ := Aside0.mk hq
  have HQB := Aside0.mk hqb
  clear hq hqb
  refine one_ (i := 4) (N := some 9) #[true, true, true, true, true, false, false] rfl rfl (one_of HT_.out (by kernel_rfl)) (by decide) (fun K hK => ?_)
  refine goes_ Try.func50 (by kernel_rfl) rfl #[.bool t] (by rfl) rfl rfl (by (try simp only [List.map_toArray, List.map_cons, List.map_nil]); rfl) ?_
  refine (impl_bit.calls t q w2 HQ.out).mono ?_
  rintro e w3 ⟨rfl, ⟨nd, rfl⟩⟩
  refine ⟨_, rfl, ?_⟩
  have B3 := Aside0.mk (pw_below_drewN B2.out nd)
  have b3 : Below w2.heap.size w2 (w2.drewN nd) := pw_below_drewN (Below.refl _ _) nd
  have S3 : (w2.drewN nd).cell? ⟨bm, 0, none⟩ = some (.int .i64 (s : Int)) ∧ (w2.drewN nd).cell? ⟨ba, 0, none⟩ = some (.slice A a.length c) := ⟨(b3.cell (World.block_lt_of_cell? w2 _ hHeld.1)).trans hHeld.1, (b3.cell (World.block_lt_of_cell? w2 _ hHeld.2)).trans hHeld.2⟩
  clear b3
  generalize w2.drewN nd = w3 at B3 S3 hK ⊢
  refine hK.out _ _ S3 (fun hHeld => ?_)
  clear hK K
  refine norm_ (a' := ?_) ?_ ?_
  rotate_left
  · show Act.put _ (some 9) _ = _
    simp only [Act.put, List.setIfInBounds_toArray, List.set_cons_zero, List.set_cons_succ, i64_w, i32_w]
    rfl
  refine pure_ (i := 5) (N := some 10) (v := ?_) (a' := ?_) #[true, true, true, true, true, true, false] rfl rfl (any_of HT_.out (by kernel_rfl)) (fun _ _ _ h => h) (Or.inl ⟨by rfl, ?_⟩) ?_ ?_
  rotate_left
  · intro w'
    go_simp
    with_reducible rfl
  rotate_left
  · simp only [Act.put, List.setIfInBounds_toArray, List.set_cons_zero, List.set_cons_succ, i64_w, i32_w]
    rfl
  have I3 := Aside0.mk (HI.out.below B3.out)
  have g1 : w3.cell? ⟨bm, 0, none⟩ = some (.int .i64 (s : Int)) := hHeld.1
  have g2 : w3.frozen? ⟨bm, 0, none⟩ = false := blk_frozen I3.out.out 0
  refine last_ (i := 6) (N := none) #[true, true, true, true, true, true, true] rfl rfl (one_of HT_.out (by kernel_rfl)) (by decide) (fun K hK => ?_)
  rw [if_pos (by rfl)]
  refine impl_CountPartners.put_ rfl (w1 := w3.setCell ⟨bm, 0, none⟩ (.int .i64 (wrap64 ((s : Int) + q)))) ?_ ?_
  · first
    | (go_simp; done)
    | (go_simp; rfl)
  refine hK.out _ _ ?_
  clear hK K
  refine done_ (done_of HT_.out (by kernel_rfl)) ?_
  have hw : wrap64 ((s : Int) + q) = (s' : Int) := by
    have h1 := HQB.out
    have h2 := HS.out
    have h3 := HSL.out
    rw [h2] at h1
    unfold wrap64
    omega
  have HOUT := Aside0.mk (blk_set I3.out.out 0 (.int .i64 (s' : Int)))
  rw [hw]
  go_wp2
  go_ret
  exact ⟨rfl, ⟨(World.cell?_of_block (Below.heap_setCell w3 ⟨bm, 0, none⟩ _ ba hab)).trans I3.out.arg, below_set I3.out.bel h0, HOUT.out⟩, (impl_groupings.KO.below B3.out).trans (impl_groupings.KO.set (K := fun q => q = bm) (p := ⟨bm, 0, none⟩) w3 rfl _)⟩
set_option maxHeartbeats 2000000 in
set_option maxRecDepth 100000 in
theorem impl_CountPartners.calls (k : Nat) (A0 : Option Addr) (c0 : Nat) (l0 : List Int) (r1 : Int) (r2 : Bool) (w : World) (hr0 : Kd.C (Kd.int .i64) w A0 l0.length l0) (hc0 : l0.length ≤ c0) (h : impl_CountPartners.f k l0 = some (r1, r2)) :
    Calls Try.prog 28 #[.slice A0 l0.length c0] w fun e w' => e = .returned (.tuple #[.int .i64 r1, .bool r2]) ∧ Below w.heap.size w w' := by
  unfold impl_CountPartners.f at h
  obtain ⟨g, hg, h⟩ := Option.bind_eq_some_iff.mp h
  have HG := Aside0.mk hg
  have HR := Aside0.mk hr0
  have HC := Aside0.mk hc0
  clear hg hr0 hc0
  cases g with
  | false =>
    rw [if_neg (by simp)] at h
    obtain ⟨rfl, rfl⟩ := Prod.mk.inj (Option.some.inj h)
    clear h
    go_enter Try.func28, Try.ntmps28
    go_wp2_with fail
    refine (impl_IsGrouping.calls k A0 c0 l0 false _ (Kd.C_below HR.out (below_alloc (Below.refl _ _) _)) HC.out HG.out).mono ?_
    rintro e w1 ⟨rfl, hb⟩
    have HB := Aside0.mk (below_step (below_alloc (Below.refl w.heap.size w) _) hb)
    clear hb
    go_wp2
    go_ret2
    exact ⟨rfl, HB.out⟩
  | true =>
    rw [if_pos rfl] at h
    obtain ⟨t, ht, h⟩ := Option.bind_eq_some_iff.mp h
    have HT := Aside0.mk ht
    clear ht
    cases t with
    | false =>
      rw [if_neg (by simp)] at h
      obtain ⟨rfl, rfl⟩ := Prod.mk.inj (Option.some.inj h)
      clear h
      go_enter Try.func28, Try.ntmps28
      go_wp2_with fail
      refine (impl_IsGrouping.calls k A0 c0 l0 true _ (Kd.C_below HR.out (below_alloc (Below.refl _ _) _)) HC.out HG.out).mono ?_
      rintro e w1 ⟨rfl, hb⟩
      have hcell : w1.cell? ⟨w.heap.size, 0, none⟩ = some (.slice A0 l0.length c0) := (blk_cell (blk_below (heap_alloc_new w _) hb) 0).trans rfl
      have HB := Aside0.mk (below_step (below_alloc (Below.refl w.heap.size w) _) hb)
      clear hb
      go_wp2_with fail
      refine (impl_areListed.calls (l0.length : Int) false _ HT.out).mono ?_
      rintro e w2 ⟨rfl, ⟨nd, rfl⟩⟩
      have HB2 := Aside0.mk (pw_below_drewN HB.out nd)
      clear hcell
      go_wp2
      go_ret2
      exact ⟨rfl, HB2.out⟩
    | true =>
      rw [if_pos rfl] at h
      split at h
      case isFalse => cases h
      rename_i hlen
      obtain ⟨⟨s, b⟩, hw, hs⟩ := Option.bind_eq_some_iff.mp h
      obtain ⟨rfl, rfl⟩ := Prod.mk.inj (Option.some.inj hs)
      have HW := Aside0.mk hw
      have HL := Aside0.mk hlen
      clear hw h hlen hs
      go_enter Try.func28, Try.ntmps28
      go_wp2_with fail
      refine (impl_IsGrouping.calls k A0 c0 l0 true _ (Kd.C_below HR.out (below_alloc (Below.refl _ _) _)) HC.out HG.out).mono ?_
      rintro e w1 ⟨rfl, hb⟩
      have hcell : w1.cell? ⟨w.heap.size, 0, none⟩ = some (.slice A0 l0.length c0) := (blk_cell (blk_below (heap_alloc_new w _) hb) 0).trans rfl
      have HB := Aside0.mk (below_step (below_alloc (Below.refl w.heap.size w) _) hb)
      have hsz1 : w.heap.size < w1.heap.size := by have := hb.size; simp at this; omega
      have HSZ := Aside0.mk hsz1
      clear hb hsz1
      go_wp2_with fail
      refine (impl_areListed.calls (l0.length : Int) true _ HT.out).mono ?_
      rintro e w2 ⟨rfl, ⟨nd, rfl⟩⟩
      have bd : Below w1.heap.size w1 (w1.drewN nd) := pw_below_drewN (Below.refl _ _) nd
      have hcell2 := (bd.cell (World.block_lt_of_cell? w1 _ hcell)).trans hcell
      have HB2 := Aside0.mk (pw_below_drewN HB.out nd)
      have HSZ2 := Aside0.mk (Nat.lt_of_lt_of_le HSZ.out bd.size)
      clear hcell HB HSZ bd
      generalize w1.drewN nd = w2 at hcell2 HB2 HSZ2 ⊢
      have hcell3 : (w2.alloc (Obj.cells #[Value.int IntKind.i64 0] 3)).cell? ⟨w.heap.size, 0, none⟩ = some (.slice A0 l0.length c0) := ((below_alloc (Below.refl w2.heap.size w2) _).cell (World.block_lt_of_cell? w2 _ hcell2)).trans hcell2
      have hne := HSZ2.out
      go_wp2_with fail
      have hsz : (w2.alloc (Obj.cells #[Value.int IntKind.i64 0] 3)).heap.size = w2.heap.size + 1 := by simp
      have g1 : (w2.alloc (Obj.cells #[Value.int IntKind.i64 0] 3)).heap[w2.heap.size]? = some (.cells #[.int .i64 ((0 : Nat) : Int)] 3 (0, 0)) := heap_alloc_new w2 _
      have g3 : Below w.heap.size w (w2.alloc (Obj.cells #[Value.int IntKind.i64 0] 3)) := below_alloc HB2.out _
      have hle := HB2.out.size
      have eg : ∀ args w, (callFunc 49 args).run Try.prog w = .ok (.enter 49 args) w := enters_ Try.func49 (by rfl) rfl
      refine (impl_groupings.all (impl_CountPartners.step k l0) (impl_CountPartners.Inv w w2.heap.size w.heap.size A0 c0 l0) (fun q => q = w2.heap.size) (w2.heap.size + 1) 49 #[.pointer (some ⟨w2.heap.size, 0, none⟩), .pointer (some ⟨w.heap.size, 0, none⟩)] (impl_CountPartners.each k l0 w (w2.heap.size + 1) w2.heap.size w.heap.size A0 c0 HR.out HC.out (by omega) (by omega) (by omega)) eg (fun s W W' hi hb => hi.below hb) (fun q hq => by omega) l0.length HL.out 0 s b _ ⟨hcell3, g3, g1⟩ (by simp) HW.out).mono ?_
      rintro e w' ⟨rfl, hi, hk⟩
      have HI := Aside0.mk hi
      have h1 := (blk_cell hi.out 0).trans (show _ = some (Value.int .i64 (s : Int)) from rfl)
      clear g1 g3 hi hk eg hsz hcell2 hcell3
      go_wp2
      go_ret2
      exact ⟨rfl, HI.out.bel⟩


/-! ### laws_FnExactCountPartners: function 8 -/
def laws_FnExactCountPartners.j0 : Nat → List Int → List Int → Bool → Option (Bool)
  | 0, _, _, _ => none
  | k + 1, x0, x5, x31 => if x31 = true then (some false) else ((laws_toIntS.f k x0).bind fun t261 => ((laws_eqIntS.f k x5 t261).bind fun t264 => (if t264 = true then (some true) else (some false))))
def laws_FnExactCountPartners.f (k : Nat) (l0 : List Int) : Option (Bool) := if (l0.length : Int) > 1048576 then (some true) else ((laws_toIntS.f k l0).bind fun t251 => ((spec_CountPartners.f k t251).bind fun bt254 => ((laws_toIntS.f k l0).bind fun t256 => ((impl_CountPartners.f k t256).bind fun bt259 => (if bt259.1 = bt254.1 then (laws_FnExactCountPartners.j0 k l0 t256 (bt259.2 != bt254.2)) else (laws_FnExactCountPartners.j0 k l0 t256 true))))))
theorem laws_FnExactCountPartners.mono_l : ∀ k, (∀ y0 y1 y2, LeO (laws_FnExactCountPartners.j0 k y0 y1 y2) (laws_FnExactCountPartners.j0 (k + 1) y0 y1 y2))
  | 0 => fun _ _ _ r h => by simp [laws_FnExactCountPartners.j0] at h
  | k + 1 => by
    have ih0 := laws_FnExactCountPartners.mono_l k
    · intro y0 y1 y2
      unfold laws_FnExactCountPartners.j0
      repeat' first
      | (with_reducible exact ih0 _ _ _)
      | (with_reducible exact impl_CountPartners.mono _ _)
      | (with_reducible exact laws_eqIntS.mono _ _ _)
      | (with_reducible exact laws_toIntS.mono _ _)
      | (with_reducible exact spec_CountPartners.mono _ _)
      | (with_reducible exact LeO.refl _)
      | (with_reducible exact LeO.none _)
      | (with_reducible refine LeO.ite ?_ ?_)
      | (with_reducible refine LeO.bind ?_ (fun _ => ?_))
      | exact ih0 _ _ _
      | exact impl_CountPartners.mono _ _
      | exact laws_eqIntS.mono _ _ _
      | exact laws_toIntS.mono _ _
      | exact spec_CountPartners.mono _ _
      | exact LeO.none _
      | refine LeO.ite ?_ ?_
      | refine LeO.bind ?_ (fun _ => ?_)
theorem laws_FnExactCountPartners.mono : ∀ a0 k, LeO (laws_FnExactCountPartners.f k a0) (laws_FnExactCountPartners.f (k + 1) a0) := by
  intro a0 k
  have ih0 := laws_FnExactCountPartners.mono_l k
  unfold laws_FnExactCountPartners.f
  repeat' first
      | (with_reducible exact ih0 _ _ _)
      | (with_reducible exact impl_CountPartners.mono _ _)
      | (with_reducible exact laws_eqIntS.mono _ _ _)
      | (with_reducible exact laws_toIntS.mono _ _)
      | (with_reducible exact spec_CountPartners.mono _ _)
      | (with_reducible exact LeO.refl _)
      | (with_reducible exact LeO.none _)
      | (with_reducible refine LeO.ite ?_ ?_)
      | (with_reducible refine LeO.bind ?_ (fun _ => ?_))
      | exact ih0 _ _ _
      | exact impl_CountPartners.mono _ _
      | exact laws_eqIntS.mono _ _ _
      | exact laws_toIntS.mono _ _
      | exact spec_CountPartners.mono _ _
      | exact LeO.none _
      | refine LeO.ite ?_ ?_
      | refine LeO.bind ?_ (fun _ => ?_)
set_option maxHeartbeats 8000000 in
set_option maxRecDepth 100000 in
theorem laws_FnExactCountPartners.calls (k : Nat) (A0 : Option Addr) (c0 : Nat) (l0 : List Int) (r : Bool) (w : World) (hr0 : Kd.C (Kd.int .i64) w A0 l0.length l0) (hc0 : l0.length ≤ c0) (h : laws_FnExactCountPartners.f k l0 = some r) :
    Calls Try.prog 8 #[.slice A0 l0.length c0] w fun e w' => e = .returned (.bool r) ∧ Below w.heap.size w w' := by
  have HR0 := Aside0.mk hr0
  have HC0 := Aside0.mk hc0
  clear hr0 hc0
  have HB := Aside0.mk (Below.refl w.heap.size w)
  have H : (if (l0.length : Int) > 1048576 then (some true) else ((laws_toIntS.f k l0).bind fun t251 => ((spec_CountPartners.f k t251).bind fun bt254 => ((laws_toIntS.f k l0).bind fun t256 => ((impl_CountPartners.f k t256).bind fun bt259 => (if bt259.1 = bt254.1 then (laws_FnExactCountPartners.j0 k l0 t256 (bt259.2 != bt254.2)) else (laws_FnExactCountPartners.j0 k l0 t256 true))))))) = some r := h
  clear h
  by_cases c2 : (l0.length : Int) > 1048576
  · rw [if_pos c2] at H
    have c2b0 : decide (1048576 < (l0.length : Int)) = true := decide_eq_true c2
    have c2b1 : decide (1048576 < l0.length) = true := decide_eq_true (by omega)
    clear c2
    obtain rfl := Option.some.inj H
    go_enter Try.func8, Try.ntmps8
    go_wp2
    go_ret
    exact ⟨by first | rfl | (simp [errW_none, errW_some] <;> rfl) | (simp [*, errW_none, errW_some] <;> rfl), by repeat (first | (with_reducible first | exact HB.out | apply below_alloc | apply pw_below_drewN | apply below_drew1) | exact HB.out)⟩
  · rw [if_neg c2] at H
    have c2b0 : decide (1048576 < (l0.length : Int)) = false := decide_eq_false c2
    have c2b1 : decide (1048576 < l0.length) = false := decide_eq_false (by omega)
    clear c2
    replace H := Option.bind_eq_some_iff.mp H
    obtain ⟨t251, A30, H⟩ := H
    replace H : ((spec_CountPartners.f k t251).bind fun bt254 => ((laws_toIntS.f k l0).bind fun t256 => ((impl_CountPartners.f k t256).bind fun bt259 => (if bt259.1 = bt254.1 then (laws_FnExactCountPartners.j0 k l0 t256 (bt259.2 != bt254.2)) else (laws_FnExactCountPartners.j0 k l0 t256 true))))) = some r := H
    have A3 := Aside0.mk A30
    clear A30
    replace H := Option.bind_eq_some_iff.mp H
    obtain ⟨⟨t254, t255⟩, A40, H⟩ := H
    replace H : ((laws_toIntS.f k l0).bind fun t256 => ((impl_CountPartners.f k t256).bind fun bt259 => (if bt259.1 = t254 then (laws_FnExactCountPartners.j0 k l0 t256 (bt259.2 != t255)) else (laws_FnExactCountPartners.j0 k l0 t256 true)))) = some r := H
    have A4 := Aside0.mk A40
    clear A40
    replace H := Option.bind_eq_some_iff.mp H
    obtain ⟨t256, A50, H⟩ := H
    replace H : ((impl_CountPartners.f k t256).bind fun bt259 => (if bt259.1 = t254 then (laws_FnExactCountPartners.j0 k l0 t256 (bt259.2 != t255)) else (laws_FnExactCountPartners.j0 k l0 t256 true))) = some r := H
    have A5 := Aside0.mk A50
    clear A50
    replace H := Option.bind_eq_some_iff.mp H
    obtain ⟨⟨t259, t260⟩, A60, H⟩ := H
    replace H : (if t259 = t254 then (laws_FnExactCountPartners.j0 k l0 t256 (t260 != t255)) else (laws_FnExactCountPartners.j0 k l0 t256 true)) = some r := H
    have A6 := Aside0.mk A60
    clear A60
    have HC7 := Aside0.mk H
    clear H
    go_enter Try.func8, Try.ntmps8
    go_upto_region 6 with (first | ((with_reducible refine gate_callee (f := 27) rfl ?_); refine goesL_ (some 13) rfl rfl Try.func27 (by kernel_rfl) rfl #[.slice A0 l0.length c0] rfl (by (try simp only [List.map_toArray, List.map_cons, List.map_nil]); first | done | rfl | (simp only [List.length_drop, List.length_take]; rfl) | (simp; done) | (refine congrArg Value.bool ?_; simp; done) | (refine congrArg (fun z_ => #[Value.bool z_]) ?_; simp; done)) ?_; (with_reducible refine (laws_toIntS.calls k _ _ l0 t251 _ ?side1 ?side2 A3.out).mono ?_); (case side1 => repeat (first | exact HR0.out | (with_reducible refine Kd.C_alloc ?_ _) | (with_reducible refine Kd.C_drewN ?_ _) | (with_reducible refine Kd.C_drew ?_))); (case side2 => exact HC0.out); rintro e w8 ⟨v252, rfl, ho0, hb⟩; refine ⟨_, rfl, ?_⟩; have n0_ := Aside0.mk (Kd.R_lower ho0 (below_size (by repeat (first | (with_reducible first | exact HB.out | apply below_alloc | apply pw_below_drewN | apply below_drew1) | exact HB.out)))); have n1_ := Aside0.mk (below_step (by repeat (first | (with_reducible first | exact HB.out | apply below_alloc | apply pw_below_drewN | apply below_drew1) | exact HB.out)) hb); clear HB; have HO253 := n0_; have HB := n1_; clear n0_ n1_; (try clear hb); (try clear hb2); (try clear hk); (try clear hi); (try clear ho0); obtain ⟨Ao9, co9, eo9⟩ := Kd.R_slice HO253.out; subst eo9) | ((with_reducible refine gate_callee (f := 26) rfl ?_); refine goesL_ (some 14) rfl rfl Try.func26 (by kernel_rfl) rfl #[.slice Ao9 t251.length co9] rfl (by (try simp only [List.map_toArray, List.map_cons, List.map_nil]); first | done | rfl | (simp only [List.length_drop, List.length_take]; rfl) | (simp; done) | (refine congrArg Value.bool ?_; simp; done) | (refine congrArg (fun z_ => #[Value.bool z_]) ?_; simp; done)) ?_; (with_reducible refine (spec_CountPartners.calls k _ _ t251 t254 t255 _ ?side1 ?side2 A4.out).mono ?_); (case side1 => repeat (first | exact (Kd.R_reads' HO253.out).2.2 | (with_reducible refine Kd.C_alloc ?_ _) | (with_reducible refine Kd.C_drewN ?_ _) | (with_reducible refine Kd.C_drew ?_))); (case side2 => exact (Kd.R_reads' HO253.out).2.1); rintro e w10 ⟨rfl, hb⟩; refine ⟨_, rfl, ?_⟩; have n0_ := Aside0.mk (Kd.R_below (by (with_reducible repeat (first | apply Kd.R_alloc | apply Kd.R_drewN | apply Kd.R_drew)); exact HO253.out) hb); have n1_ := Aside0.mk (below_step (by repeat (first | (with_reducible first | exact HB.out | apply below_alloc | apply pw_below_drewN | apply below_drew1) | exact HB.out)) hb); clear HO253; clear HB; have HO253 := n0_; have HB := n1_; clear n0_ n1_; (try clear hb); (try clear hb2); (try clear hk); (try clear hi)) | ((with_reducible refine gate_callee (f := 27) rfl ?_); refine goesL_ (some 18) rfl rfl Try.func27 (by kernel_rfl) rfl #[.slice A0 l0.length c0] rfl (by (try simp only [List.map_toArray, List.map_cons, List.map_nil]); first | done | rfl | (simp only [List.length_drop, List.length_take]; rfl) | (simp; done) | (refine congrArg Value.bool ?_; simp; done) | (refine congrArg (fun z_ => #[Value.bool z_]) ?_; simp; done)) ?_; (with_reducible refine (laws_toIntS.calls k _ _ l0 t256 _ ?side1 ?side2 A5.out).mono ?_); (case side1 => repeat (first | exact (Kd.C_below HR0.out HB.out) | (with_reducible refine Kd.C_alloc ?_ _) | (with_reducible refine Kd.C_drewN ?_ _) | (with_reducible refine Kd.C_drew ?_))); (case side2 => exact HC0.out); rintro e w11 ⟨v257, rfl, ho0, hb⟩; refine ⟨_, rfl, ?_⟩; have n0_ := Aside0.mk (Kd.R_elder' (by (with_reducible repeat (first | apply Kd.R_alloc | apply Kd.R_drewN | apply Kd.R_drew)); exact HO253.out) (Kd.R_base ho0) hb); have n1_ := Aside0.mk (Kd.R_lower (Kd.R_new' ho0 (Kd.R_lt (by (with_reducible repeat (first | apply Kd.R_alloc | apply Kd.R_drewN | apply Kd.R_drew)); exact HO253.out))) (below_size (by repeat (first | (with_reducible first | exact HB.out | apply below_alloc | apply pw_below_drewN | apply below_drew1) | exact HB.out)))); have n2_ := Aside0.mk (below_step (by repeat (first | (with_reducible first | exact HB.out | apply below_alloc | apply pw_below_drewN | apply below_drew1) | exact HB.out)) hb); clear HO253; clear HB; have HO253 := n0_; have HO258 := n1_; have HB := n2_; clear n0_ n1_ n2_; (try clear hb); (try clear hb2); (try clear hk); (try clear hi); (try clear ho0); obtain ⟨Ao12, co12, eo12⟩ := Kd.R_slice HO258.out; subst eo12) | ((with_reducible refine gate_callee (f := 28) rfl ?_); refine goesL_ (some 21) rfl rfl Try.func28 (by kernel_rfl) rfl #[.slice Ao12 t256.length co12] rfl (by (try simp only [List.map_toArray, List.map_cons, List.map_nil]); first | done | rfl | (simp only [List.length_drop, List.length_take]; rfl) | (simp; done) | (refine congrArg Value.bool ?_; simp; done) | (refine congrArg (fun z_ => #[Value.bool z_]) ?_; simp; done)) ?_; (with_reducible refine (impl_CountPartners.calls k _ _ t256 t259 t260 _ ?side1 ?side2 A6.out).mono ?_); (case side1 => repeat (first | exact (Kd.R_reads' HO258.out).2.2 | (with_reducible refine Kd.C_alloc ?_ _) | (with_reducible refine Kd.C_drewN ?_ _) | (with_reducible refine Kd.C_drew ?_))); (case side2 => exact (Kd.R_reads' HO258.out).2.1); rintro e w13 ⟨rfl, hb⟩; refine ⟨_, rfl, ?_⟩; have n0_ := Aside0.mk (Kd.R_below (by (with_reducible repeat (first | apply Kd.R_alloc | apply Kd.R_drewN | apply Kd.R_drew)); exact HO253.out) hb); have n1_ := Aside0.mk (Kd.R_below (by (with_reducible repeat (first | apply Kd.R_alloc | apply Kd.R_drewN | apply Kd.R_drew)); exact HO258.out) hb); have n2_ := Aside0.mk (below_step (by repeat (first | (with_reducible first | exact HB.out | apply below_alloc | apply pw_below_drewN | apply below_drew1) | exact HB.out)) hb); clear HO253; clear HO258; clear HB; have HO253 := n0_; have HO258 := n1_; have HB := n2_; clear n0_ n1_ n2_; (try clear hb); (try clear hb2); (try clear hk); (try clear hi)))
    (try simp only [Act.put, List.setIfInBounds_toArray, List.set_cons_zero, List.set_cons_succ])
    go_cut [31] (fun v31 wc => ∃ (kq : Nat) (x31_6 : Bool), v31 = .bool x31_6 ∧ Aside0 (laws_FnExactCountPartners.j0 kq l0 t256 x31_6 = some r) ∧ Aside0 (kq ≤ k) ∧ Aside0 (Kd.R (Kd.int .i64) 3 wc w.heap.size (fun _ => True) (.slice Ao12 t256.length co12) t256) ∧ Aside0 (Below w.heap.size w wc))
    case first =>
      have H := HC7.out
      clear HC7
      by_cases c14 : t259 = t254
      · rw [if_pos c14] at H
        have c14b0 : (t259 == t254) = true := beq_iff_eq.mpr c14
        have c14b1 : (t259 != t254) = false := bne_eq_false_iff_eq.mpr c14
        clear c14
        (first | rw [c14b0] | (simp only [i64_w, i32_w]; rw [c14b0]) |rw [c14b1] | rw [c14b2] | skip)
        have H' := Aside0.mk H
        clear H
        go_wp2
        go_meet
        case rel => exact ⟨_, ((t260 != t255)), (by first | rfl | (simp; done) | (simp [*]; done)), H', ⟨by first | omega | exact Nat.le_refl _⟩, ⟨by (with_reducible repeat (first | apply Kd.R_alloc | apply Kd.R_drewN | apply Kd.R_drew)); exact Kd.R_mono HO258.out (fun _ hk => trivial)⟩, ⟨by repeat (first | (with_reducible first | exact HB.out | apply below_alloc | apply pw_below_drewN | apply below_drew1) | exact HB.out)⟩⟩
      · rw [if_neg c14] at H
        have c14b0 : (t259 == t254) = false := beq_eq_false_iff_ne.mpr c14
        have c14b1 : (t259 != t254) = true := bne_iff_ne.mpr c14
        (first | rw [c14b0] | (simp only [i64_w, i32_w]; rw [c14b0]) |rw [c14b1] | rw [c14b2] | skip)
        have H' := Aside0.mk H
        clear H
        go_wp2
        go_meet
        case rel => exact ⟨_, (true), (by first | rfl | (simp; done) | (simp [*]; done)), H', ⟨by first | omega | exact Nat.le_refl _⟩, ⟨by (with_reducible repeat (first | apply Kd.R_alloc | apply Kd.R_drewN | apply Kd.R_drew)); exact Kd.R_mono HO258.out (fun _ hk => trivial)⟩, ⟨by repeat (first | (with_reducible first | exact HB.out | apply below_alloc | apply pw_below_drewN | apply below_drew1) | exact HB.out)⟩⟩
    case rest =>
      clear HC7
      try clear c1
      try clear c2
      try clear c2b0
      try clear c2b1
      try clear p2
      try clear c8
      try clear c14
      try clear c14b0
      try clear c14b1
      obtain ⟨kq, x31_6, rfl, HA, HJ6, HO_5, HB⟩ := hcut
      cases kq with
      | zero => exact absurd HA.out (by simp [laws_FnExactCountPartners.j0])
      | succ kj6 =>
        have H := HA.out
        clear HA
        simp only [laws_FnExactCountPartners.j0] at H
        by_cases c15 : x31_6 = true
        · subst c15
          have H1 : (some false) = some r := by rw [if_pos rfl] at H; exact H
          clear H
          have H := H1
          clear H1
          obtain rfl := Option.some.inj H
          go_wp2
          go_ret
          exact ⟨by first | rfl | (simp [errW_none, errW_some] <;> rfl) | (simp [*, errW_none, errW_some] <;> rfl), by repeat (first | (with_reducible first | exact HB.out | apply below_alloc | apply pw_below_drewN | apply below_drew1) | exact HB.out)⟩
        · replace c15 := Bool.eq_false_iff.mpr c15
          subst c15
          have H1 : ((laws_toIntS.f kj6 l0).bind fun t261 => ((laws_eqIntS.f kj6 t256 t261).bind fun t264 => (if t264 = true then (some true) else (some false)))) = some r := by rw [if_neg (show ¬ (false = true) by decide)] at H; exact H
          clear H
          have H := H1
          clear H1
          replace H := Option.bind_eq_some_iff.mp H
          obtain ⟨t261, A160, H⟩ := H
          replace H : ((laws_eqIntS.f kj6 t256 t261).bind fun t264 => (if t264 = true then (some true) else (some false))) = some r := H
          have A16 := Aside0.mk A160
          clear A160
          replace H := Option.bind_eq_some_iff.mp H
          obtain ⟨t264, A170, H⟩ := H
          replace H : (if t264 = true then (some true) else (some false)) = some r := H
          have A17 := Aside0.mk A170
          clear A170
          by_cases c18 : t264 = true
          · subst c18
            have H1 : (some true) = some r := by rw [if_pos rfl] at H; exact H
            clear H
            have H := H1
            clear H1
            obtain rfl := Option.some.inj H
            go_wp2_with (first | ((with_reducible refine gate_callee (f := 27) rfl ?_); refine goesL_ (some 34) rfl rfl Try.func27 (by kernel_rfl) rfl #[.slice A0 l0.length c0] rfl (by (try simp only [List.map_toArray, List.map_cons, List.map_nil]); first | done | rfl | (simp only [List.length_drop, List.length_take]; rfl) | (simp; done) | (refine congrArg Value.bool ?_; simp; done) | (refine congrArg (fun z_ => #[Value.bool z_]) ?_; simp; done)) ?_; (with_reducible refine (laws_toIntS.calls kj6 _ _ l0 t261 _ ?side1 ?side2 A16.out).mono ?_); (case side1 => repeat (first | exact (Kd.C_below HR0.out HB.out) | (with_reducible refine Kd.C_alloc ?_ _) | (with_reducible refine Kd.C_drewN ?_ _) | (with_reducible refine Kd.C_drew ?_))); (case side2 => exact HC0.out); rintro e w19 ⟨v262, rfl, ho0, hb⟩; refine ⟨_, rfl, ?_⟩; have n0_ := Aside0.mk (Kd.R_elder' (by (with_reducible repeat (first | apply Kd.R_alloc | apply Kd.R_drewN | apply Kd.R_drew)); exact HO_5.out) (Kd.R_base ho0) hb); have n1_ := Aside0.mk (Kd.R_lower (Kd.R_new' ho0 (Kd.R_lt (by (with_reducible repeat (first | apply Kd.R_alloc | apply Kd.R_drewN | apply Kd.R_drew)); exact HO_5.out))) (below_size (by repeat (first | (with_reducible first | exact HB.out | apply below_alloc | apply pw_below_drewN | apply below_drew1) | exact HB.out)))); have n2_ := Aside0.mk (below_step (by repeat (first | (with_reducible first | exact HB.out | apply below_alloc | apply pw_below_drewN | apply below_drew1) | exact HB.out)) hb); clear HO_5; clear HB; have HO_5 := n0_; have HO263 := n1_; have HB := n2_; clear n0_ n1_ n2_; (try clear hb); (try clear hb2); (try clear hk); (try clear hi); (try clear ho0); obtain ⟨Ao20, co20, eo20⟩ := Kd.R_slice HO263.out; subst eo20) | ((with_reducible refine gate_callee (f := 18) rfl ?_); refine goesL_ (some 35) rfl rfl Try.func18 (by kernel_rfl) rfl #[.slice Ao12 t256.length co12, .slice Ao20 t261.length co20] rfl (by (try simp only [List.map_toArray, List.map_cons, List.map_nil]); first | done | rfl | (simp only [List.length_drop, List.length_take]; rfl) | (simp; done) | (refine congrArg Value.bool ?_; simp; done) | (refine congrArg (fun z_ => #[Value.bool z_]) ?_; simp; done)) ?_; (with_reducible refine (laws_eqIntS.calls kj6 _ _ t256 _ _ t261 true _ ?side1 ?side2 ?side3 ?side4 A17.out).mono ?_); (case side1 => repeat (first | exact (Kd.R_reads' HO_5.out).2.2 | (with_reducible refine Kd.C_alloc ?_ _) | (with_reducible refine Kd.C_drewN ?_ _) | (with_reducible refine Kd.C_drew ?_))); (case side2 => exact (Kd.R_reads' HO_5.out).2.1); (case side3 => repeat (first | exact (Kd.R_reads' HO263.out).2.2 | (with_reducible refine Kd.C_alloc ?_ _) | (with_reducible refine Kd.C_drewN ?_ _) | (with_reducible refine Kd.C_drew ?_))); (case side4 => exact (Kd.R_reads' HO263.out).2.1); rintro e w' ⟨rfl, ⟨nd, rfl⟩⟩; refine ⟨_, rfl, ?_⟩))
            go_ret
            exact ⟨by first | rfl | (simp [errW_none, errW_some] <;> rfl) | (simp [*, errW_none, errW_some] <;> rfl), by repeat (first | (with_reducible first | exact HB.out | apply below_alloc | apply pw_below_drewN | apply below_drew1) | exact HB.out)⟩
          · replace c18 := Bool.eq_false_iff.mpr c18
            subst c18
            have H1 : (some false) = some r := by rw [if_neg (show ¬ (false = true) by decide)] at H; exact H
            clear H
            have H := H1
            clear H1
            obtain rfl := Option.some.inj H
            go_wp2_with (first | ((with_reducible refine gate_callee (f := 27) rfl ?_); refine goesL_ (some 34) rfl rfl Try.func27 (by kernel_rfl) rfl #[.slice A0 l0.length c0] rfl (by (try simp only [List.map_toArray, List.map_cons, List.map_nil]); first | done | rfl | (simp only [List.length_drop, List.length_take]; rfl) | (simp; done) | (refine congrArg Value.bool ?_; simp; done) | (refine congrArg (fun z_ => #[Value.bool z_]) ?_; simp; done)) ?_; (with_reducible refine (laws_toIntS.calls kj6 _ _ l0 t261 _ ?side1 ?side2 A16.out).mono ?_); (case side1 => repeat (first | exact (Kd.C_below HR0.out HB.out) | (with_reducible refine Kd.C_alloc ?_ _) | (with_reducible refine Kd.C_drewN ?_ _) | (with_reducible refine Kd.C_drew ?_))); (case side2 => exact HC0.out); rintro e w21 ⟨v262, rfl, ho0, hb⟩; refine ⟨_, rfl, ?_⟩; have n0_ := Aside0.mk (Kd.R_elder' (by (with_reducible repeat (first | apply Kd.R_alloc | apply Kd.R_drewN | apply Kd.R_drew)); exact HO_5.out) (Kd.R_base ho0) hb); have n1_ := Aside0.mk (Kd.R_lower (Kd.R_new' ho0 (Kd.R_lt (by (with_reducible repeat (first | apply Kd.R_alloc | apply Kd.R_drewN | apply Kd.R_drew)); exact HO_5.out))) (below_size (by repeat (first | (with_reducible first | exact HB.out | apply below_alloc | apply pw_below_drewN | apply below_drew1) | exact HB.out)))); have n2_ := Aside0.mk (below_step (by repeat (first | (with_reducible first | exact HB.out | apply below_alloc | apply pw_below_drewN | apply below_drew1) | exact HB.out)) hb); clear HO_5; clear HB; have HO_5 := n0_; have HO263 := n1_; have HB := n2_; clear n0_ n1_ n2_; (try clear hb); (try clear hb2); (try clear hk); (try clear hi); (try clear ho0); obtain ⟨Ao22, co22, eo22⟩ := Kd.R_slice HO263.out; subst eo22) | ((with_reducible refine gate_callee (f := 18) rfl ?_); refine goesL_ (some 35) rfl rfl Try.func18 (by kernel_rfl) rfl #[.slice Ao12 t256.length co12, .slice Ao22 t261.length co22] rfl (by (try simp only [List.map_toArray, List.map_cons, List.map_nil]); first | done | rfl | (simp only [List.length_drop, List.length_take]; rfl) | (simp; done) | (refine congrArg Value.bool ?_; simp; done) | (refine congrArg (fun z_ => #[Value.bool z_]) ?_; simp; done)) ?_; (with_reducible refine (laws_eqIntS.calls kj6 _ _ t256 _ _ t261 false _ ?side1 ?side2 ?side3 ?side4 A17.out).mono ?_); (case side1 => repeat (first | exact (Kd.R_reads' HO_5.out).2.2 | (with_reducible refine Kd.C_alloc ?_ _) | (with_reducible refine Kd.C_drewN ?_ _) | (with_reducible refine Kd.C_drew ?_))); (case side2 => exact (Kd.R_reads' HO_5.out).2.1); (case side3 => repeat (first | exact (Kd.R_reads' HO263.out).2.2 | (with_reducible refine Kd.C_alloc ?_ _) | (with_reducible refine Kd.C_drewN ?_ _) | (with_reducible refine Kd.C_drew ?_))); (case side4 => exact (Kd.R_reads' HO263.out).2.1); rintro e w' ⟨rfl, ⟨nd, rfl⟩⟩; refine ⟨_, rfl, ?_⟩))
            go_ret
            exact ⟨by first | rfl | (simp [errW_none, errW_some] <;> rfl) | (simp [*, errW_none, errW_some] <;> rfl), by repeat (first | (with_reducible first | exact HB.out | apply below_alloc | apply pw_below_drewN | apply below_drew1) | exact HB.out)⟩

/-- THE ONE PURE STATEMENT of laws_FnExactCountPartners: yours. -/
def laws_FnExactCountPartners.Pure : Prop := ∀ (l0 : List Int), l0.length ≤ maxLen → l0.length * 8 ≤ 140737488351232 → (∀ x ∈ l0, (Lit.int .i64 x).wf = true) → ∃ k, laws_FnExactCountPartners.f k l0 = some true
theorem laws_FnExactCountPartners.walk (P : laws_FnExactCountPartners.Pure) (a0 : Option Addr) (len0 cap0 : Nat) (z0 : List Int) (w : World) (w0 : (a0 = none ∧ len0 = 0 ∧ cap0 = 0 ∧ z0 = []) ∨ ∃ x, a0 = some x ∧ len0 ≤ cap0 ∧ cap0 ≤ maxLen ∧ z0.length = cap0 ∧ (∀ i, i < z0.length → w.cell? (x.add i) = some (.int .i64 (z0.getD i 0))) ∧ ∀ n ∈ z0, (Lit.int .i64 n).wf = true) (y0 : len0 * 8 ≤ 140737488351232) :
    Calls Try.prog 8 #[.slice a0 len0 cap0] w fun e w' => e = .returned (.bool true) ∧ Below w.heap.size w w' := by
  obtain ⟨l0, rfl, hr0, hm0, hw0, hc0⟩ := ReadsInt.ofRowC w0
  obtain ⟨k, h⟩ := P l0 hm0 y0 hw0
  refine (laws_FnExactCountPartners.calls k _ _ l0 true w (Kd.C_of_reads (d := (0 : Int)) (h1 := fun _ => rfl) hr0) hc0 h).mono ?_
  rintro e w' ⟨rfl, hd⟩
  exact ⟨rfl, hd⟩

end Go.Proofs.Ytbmhgmnlkeebcab.PFnExactCountPartners
