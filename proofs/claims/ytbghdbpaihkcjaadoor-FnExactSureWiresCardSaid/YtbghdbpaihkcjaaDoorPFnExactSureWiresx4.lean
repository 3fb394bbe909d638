-- Written by a program of this claim, over the kit's print: the functions that a law reaches, their plain forms and the walks.
import Derived.Test.YtbghdbpaihkcjaaDoorPFnExactSureWiresx0
import Derived.Test.YtbghdbpaihkcjaaDoorPFnExactSureWiresx2
import Derived.Test.YtbghdbpaihkcjaaDoorPFnExactSureWiresx3
namespace Go.Proofs.YtbghdbpaihkcjaaDoor.PFnExactSureWires
open Go.RowKit Go.Proofs.YtbghdbpaihkcjaaDoorW.PrintWords Go.Proofs.YtbghdbpaihkcjaaDoorW.PrintLast Go.Proofs.YtbghdbpaihkcjaaDoorW.PrintMore
attribute [local go_sem] max2_int min2_int max_two min_two max_three min_three max_four min_four   -- for this text's walks alone
set_option linter.unusedVariables false
set_option linter.unusedSimpArgs false

/-! ### spec_SureWires: function 22 -/
mutual
def spec_SureWires.l0 : Nat → Int → List (List Int) → ByteArray → Int → Option (ByteArray × Bool)
  | 0, _, _, _, _ => none
  | k + 1, x0, x10, x11, x12 => if x12 < x0 then (spec_SureWires.l1 k x0 x10 x11 x12 0 x10 (x10.length : Int) 0) else (some (x11, true))
def spec_SureWires.l1 : Nat → Int → List (List Int) → ByteArray → Int → Int → List (List Int) → Int → Int → Option (ByteArray × Bool)
  | 0, _, _, _, _, _, _, _, _ => none
  | k + 1, x0, x10, x11, x12, x13, x35, x36, x37 => if x37 < x36 then (if 0 ≤ x37 then (if x37 < (x35.length : Int) then ((spec_l1Has.f k (rd_L1 x35 x37) x12).bind fun t174 => (if t174 = true then (spec_SureWires.l1 k x0 x10 x11 x12 (wrap64 (x13 + 1)) x35 x36 (wrap64 (x37 + 1))) else (spec_SureWires.l1 k x0 x10 x11 x12 x13 x35 x36 (wrap64 (x37 + 1))))) else (none)) else (none)) else (if x13 = 0 then (if x11.size + 1 ≤ 9223372036854775807 then (spec_SureWires.l0 k x0 x10 (x11 ++ (⟨#[111]⟩ : ByteArray)) (wrap64 (x12 + 1))) else (none)) else (if x13 = (x10.length : Int) then (if x11.size + 1 ≤ 9223372036854775807 then (spec_SureWires.l0 k x0 x10 (x11 ++ (⟨#[120]⟩ : ByteArray)) (wrap64 (x12 + 1))) else (none)) else (if x11.size + 1 ≤ 9223372036854775807 then (spec_SureWires.l0 k x0 x10 (x11 ++ (⟨#[63]⟩ : ByteArray)) (wrap64 (x12 + 1))) else (none))))
end
def spec_SureWires.f (k : Nat) (a0 : Int) (l1 : List (List Int)) (a2 : ByteArray) (a3 : Int) : Option (ByteArray × Bool) := (spec_wiAsked.f k a0 l1 a2 a3).bind fun t169 => (if t169 = true then ((spec_wiFit.f k a0 l1 a2 a3).bind fun t170 => (if (t170.length : Int) = 0 then (some ((⟨#[]⟩ : ByteArray), false)) else (spec_SureWires.l0 k a0 t170 (⟨#[]⟩ : ByteArray) 0))) else (some ((⟨#[]⟩ : ByteArray), false)))
theorem spec_SureWires.mono_l : ∀ k, (∀ y0 y1 y2 y3, LeO (spec_SureWires.l0 k y0 y1 y2 y3) (spec_SureWires.l0 (k + 1) y0 y1 y2 y3)) ∧ (∀ y0 y1 y2 y3 y4 y5 y6 y7, LeO (spec_SureWires.l1 k y0 y1 y2 y3 y4 y5 y6 y7) (spec_SureWires.l1 (k + 1) y0 y1 y2 y3 y4 y5 y6 y7))
  | 0 => ⟨fun _ _ _ _ r h => by simp [spec_SureWires.l0] at h, fun _ _ _ _ _ _ _ _ r h => by simp [spec_SureWires.l1] at h⟩
  | k + 1 => by
    obtain ⟨ih0, ih1⟩ := spec_SureWires.mono_l k
    refine ⟨?_, ?_⟩
    · intro y0 y1 y2 y3
      unfold spec_SureWires.l0
      repeat' first
      | (with_reducible exact ih0 _ _ _ _)
      | (with_reducible exact ih1 _ _ _ _ _ _ _ _)
      | (with_reducible exact spec_l1Has.mono _ _ _)
      | (with_reducible exact spec_wiAsked.mono _ _ _ _ _)
      | (with_reducible exact spec_wiFit.mono _ _ _ _ _)
      | (with_reducible exact LeO.refl _)
      | (with_reducible exact LeO.none _)
      | (with_reducible refine LeO.ite ?_ ?_)
      | (with_reducible refine LeO.bind ?_ (fun _ => ?_))
      | exact ih0 _ _ _ _
      | exact ih1 _ _ _ _ _ _ _ _
      | exact spec_l1Has.mono _ _ _
      | exact spec_wiAsked.mono _ _ _ _ _
      | exact spec_wiFit.mono _ _ _ _ _
      | exact LeO.none _
      | refine LeO.ite ?_ ?_
      | refine LeO.bind ?_ (fun _ => ?_)
    · intro y0 y1 y2 y3 y4 y5 y6 y7
      unfold spec_SureWires.l1
      repeat' first
      | (with_reducible exact ih0 _ _ _ _)
      | (with_reducible exact ih1 _ _ _ _ _ _ _ _)
      | (with_reducible exact spec_l1Has.mono _ _ _)
      | (with_reducible exact spec_wiAsked.mono _ _ _ _ _)
      | (with_reducible exact spec_wiFit.mono _ _ _ _ _)
      | (with_reducible exact LeO.refl _)
      | (with_reducible exact LeO.none _)
      | (with_reducible refine LeO.ite ?_ ?_)
      | (with_reducible refine LeO.bind ?_ (fun _ => ?_))
      | exact ih0 _ _ _ _
      | exact ih1 _ _ _ _ _ _ _ _
      | exact spec_l1Has.mono _ _ _
      | exact spec_wiAsked.mono _ _ _ _ _
      | exact spec_wiFit.mono _ _ _ _ _
      | exact LeO.none _
      | refine LeO.ite ?_ ?_
      | refine LeO.bind ?_ (fun _ => ?_)
theorem spec_SureWires.mono : ∀ a0 a1 a2 a3 k, LeO (spec_SureWires.f k a0 a1 a2 a3) (spec_SureWires.f (k + 1) a0 a1 a2 a3) := by
  intro a0 a1 a2 a3 k
  obtain ⟨ih0, ih1⟩ := spec_SureWires.mono_l k
  unfold spec_SureWires.f
  repeat' first
      | (with_reducible exact ih0 _ _ _ _)
      | (with_reducible exact ih1 _ _ _ _ _ _ _ _)
      | (with_reducible exact spec_l1Has.mono _ _ _)
      | (with_reducible exact spec_wiAsked.mono _ _ _ _ _)
      | (with_reducible exact spec_wiFit.mono _ _ _ _ _)
      | (with_reducible exact LeO.refl _)
      | (with_reducible exact LeO.none _)
      | (with_reducible refine LeO.ite ?_ ?_)
      | (with_reducible refine LeO.bind ?_ (fun _ => ?_))
      | exact ih0 _ _ _ _
      | exact ih1 _ _ _ _ _ _ _ _
      | exact spec_l1Has.mono _ _ _
      | exact spec_wiAsked.mono _ _ _ _ _
      | exact spec_wiFit.mono _ _ _ _ _
      | exact LeO.none _
      | refine LeO.ite ?_ ?_
      | refine LeO.bind ?_ (fun _ => ?_)
set_option maxHeartbeats 8000000 in
set_option maxRecDepth 100000 in
theorem spec_SureWires.calls (k : Nat) (a0 : Int) (A1 : Option Addr) (c1 : Nat) (l1 : List (List Int)) (a2 : ByteArray) (a3 : Int) (r1 : ByteArray) (r2 : Bool) (w : World) (hr1 : Kd.C (Kd.slice 3 (Kd.int .i64)) w A1 l1.length l1) (hc1 : l1.length ≤ c1) (h : spec_SureWires.f k a0 l1 a2 a3 = some (r1, r2)) :
    Calls Tryd.prog 22 #[.int .i64 a0, .slice A1 l1.length c1, .string a2, .int .i64 a3] w fun e w' => e = .returned (.tuple #[.string r1, .bool r2]) ∧ Below w.heap.size w w' := by
  have HR1 := Aside0.mk hr1
  have HC1 := Aside0.mk hc1
  clear hr1 hc1
  have HB := Aside0.mk (Below.refl w.heap.size w)
  have H : ((spec_wiAsked.f k a0 l1 a2 a3).bind fun t169 => (if t169 = true then ((spec_wiFit.f k a0 l1 a2 a3).bind fun t170 => (if (t170.length : Int) = 0 then (some ((⟨#[]⟩ : ByteArray), false)) else (spec_SureWires.l0 k a0 t170 (⟨#[]⟩ : ByteArray) 0))) else (some ((⟨#[]⟩ : ByteArray), false)))) = some (r1, r2) := h
  clear h
  replace H := Option.bind_eq_some_iff.mp H
  obtain ⟨t169, A50, H⟩ := H
  replace H : (if t169 = true then ((spec_wiFit.f k a0 l1 a2 a3).bind fun t170 => (if (t170.length : Int) = 0 then (some ((⟨#[]⟩ : ByteArray), false)) else (spec_SureWires.l0 k a0 t170 (⟨#[]⟩ : ByteArray) 0))) else (some ((⟨#[]⟩ : ByteArray), false))) = some (r1, r2) := H
  have A5 := Aside0.mk A50
  clear A50
  by_cases c6 : t169 = true
  · subst c6
    have H1 : ((spec_wiFit.f k a0 l1 a2 a3).bind fun t170 => (if (t170.length : Int) = 0 then (some ((⟨#[]⟩ : ByteArray), false)) else (spec_SureWires.l0 k a0 t170 (⟨#[]⟩ : ByteArray) 0))) = some (r1, r2) := by rw [if_pos rfl] at H; exact H
    clear H
    have H := H1
    clear H1
    replace H := Option.bind_eq_some_iff.mp H
    obtain ⟨t170, A70, H⟩ := H
    replace H : (if (t170.length : Int) = 0 then (some ((⟨#[]⟩ : ByteArray), false)) else (spec_SureWires.l0 k a0 t170 (⟨#[]⟩ : ByteArray) 0)) = some (r1, r2) := H
    have A7 := Aside0.mk A70
    clear A70
    by_cases c8 : (t170.length : Int) = 0
    · rw [if_pos c8] at H
      have c8b0 : ((t170.length : Int) == 0) = true := beq_iff_eq.mpr c8
      have c8b1 : ((t170.length : Int) != 0) = false := bne_eq_false_iff_eq.mpr c8
      clear c8
      simp only [Option.some.injEq, Prod.mk.injEq] at H
      obtain ⟨rfl, rfl⟩ := H
      go_enter Tryd.func22, Tryd.ntmps22
      go_wp2_with (first | ((with_reducible refine gate_callee (f := 27) rfl ?_); refine goesL_ (some 20) rfl rfl Tryd.func27 (by kernel_rfl) rfl #[.int .i64 a0, .slice A1 l1.length c1, .string a2, .int .i64 a3] rfl (by (try simp only [List.map_toArray, List.map_cons, List.map_nil]); first | done | rfl | (simp only [List.length_drop, List.length_take]; rfl) | (simp; done) | (refine congrArg Value.bool ?_; simp; done) | (refine congrArg (fun z_ => #[Value.bool z_]) ?_; simp; done)) ?_; (with_reducible refine (spec_wiAsked.calls k a0 _ _ l1 a2 a3 true _ ?side1 ?side2 A5.out).mono ?_); (case side1 => repeat (first | exact HR1.out | (with_reducible refine Kd.C_alloc ?_ _) | (with_reducible refine Kd.C_drewN ?_ _) | (with_reducible refine Kd.C_drew ?_))); (case side2 => exact HC1.out); rintro e w9 ⟨rfl, hb⟩; refine ⟨_, rfl, ?_⟩; have n0_ := Aside0.mk (below_step (by repeat (first | (with_reducible first | exact HB.out | apply below_alloc | apply pw_below_drewN | apply below_drew1) | exact HB.out)) hb); clear HB; have HB := n0_; clear n0_; (try clear hb); (try clear hb2); (try clear hk); (try clear hi)) | ((with_reducible refine gate_callee (f := 34) rfl ?_); refine goesL_ (some 26) rfl rfl Tryd.func34 (by kernel_rfl) rfl #[.int .i64 a0, .slice A1 l1.length c1, .string a2, .int .i64 a3] rfl (by (try simp only [List.map_toArray, List.map_cons, List.map_nil]); first | done | rfl | (simp only [List.length_drop, List.length_take]; rfl) | (simp; done) | (refine congrArg Value.bool ?_; simp; done) | (refine congrArg (fun z_ => #[Value.bool z_]) ?_; simp; done)) ?_; (with_reducible refine (spec_wiFit.calls k a0 _ _ l1 a2 a3 t170 _ ?side1 ?side2 A7.out).mono ?_); (case side1 => repeat (first | exact (Kd.C_below HR1.out HB.out) | (with_reducible refine Kd.C_alloc ?_ _) | (with_reducible refine Kd.C_drewN ?_ _) | (with_reducible refine Kd.C_drew ?_))); (case side2 => exact HC1.out); rintro e w10 ⟨v171, rfl, ho0, hb⟩; refine ⟨_, rfl, ?_⟩; have n0_ := Aside0.mk (Kd.N_lower (Kd.N_mono (ok' := fun k_ => True) ho0 (fun k_ hk_ => trivial)) (below_size (by repeat (first | (with_reducible first | exact HB.out | apply below_alloc | apply pw_below_drewN | apply below_drew1) | exact HB.out)))); have n1_ := Aside0.mk (below_step (by repeat (first | (with_reducible first | exact HB.out | apply below_alloc | apply pw_below_drewN | apply below_drew1) | exact HB.out)) hb); clear HB; have HO172 := n0_; have HB := n1_; clear n0_ n1_; (try clear hb); (try clear hb2); (try clear hk); (try clear hi); (try clear ho0); obtain ⟨Ao11, co11, eo11⟩ := Kd.N_slice HO172.out; subst eo11))
      go_ret2
      exact ⟨by first | rfl | (simp [errW_none, errW_some] <;> rfl) | (simp [*, errW_none, errW_some] <;> rfl), by repeat (first | (with_reducible first | exact HB.out | apply below_alloc | apply pw_below_drewN | apply below_drew1) | exact HB.out)⟩
    · rw [if_neg c8] at H
      have c8b0 : ((t170.length : Int) == 0) = false := beq_eq_false_iff_ne.mpr c8
      have c8b1 : ((t170.length : Int) != 0) = true := bne_iff_ne.mpr c8
      have c8b2 : ¬ (t170 = []) := fun h_ => c8 (by rw [h_]; rfl)
      have H' := Aside0.mk H
      clear H
      go_enter Tryd.func22, Tryd.ntmps22
      go_wp2_with (first | ((with_reducible refine gate_callee (f := 27) rfl ?_); refine goesL_ (some 20) rfl rfl Tryd.func27 (by kernel_rfl) rfl #[.int .i64 a0, .slice A1 l1.length c1, .string a2, .int .i64 a3] rfl (by (try simp only [List.map_toArray, List.map_cons, List.map_nil]); first | done | rfl | (simp only [List.length_drop, List.length_take]; rfl) | (simp; done) | (refine congrArg Value.bool ?_; simp; done) | (refine congrArg (fun z_ => #[Value.bool z_]) ?_; simp; done)) ?_; (with_reducible refine (spec_wiAsked.calls k a0 _ _ l1 a2 a3 true _ ?side1 ?side2 A5.out).mono ?_); (case side1 => repeat (first | exact HR1.out | (with_reducible refine Kd.C_alloc ?_ _) | (with_reducible refine Kd.C_drewN ?_ _) | (with_reducible refine Kd.C_drew ?_))); (case side2 => exact HC1.out); rintro e w12 ⟨rfl, hb⟩; refine ⟨_, rfl, ?_⟩; have n0_ := Aside0.mk (below_step (by repeat (first | (with_reducible first | exact HB.out | apply below_alloc | apply pw_below_drewN | apply below_drew1) | exact HB.out)) hb); clear HB; have HB := n0_; clear n0_; (try clear hb); (try clear hb2); (try clear hk); (try clear hi)) | ((with_reducible refine gate_callee (f := 34) rfl ?_); refine goesL_ (some 26) rfl rfl Tryd.func34 (by kernel_rfl) rfl #[.int .i64 a0, .slice A1 l1.length c1, .string a2, .int .i64 a3] rfl (by (try simp only [List.map_toArray, List.map_cons, List.map_nil]); first | done | rfl | (simp only [List.length_drop, List.length_take]; rfl) | (simp; done) | (refine congrArg Value.bool ?_; simp; done) | (refine congrArg (fun z_ => #[Value.bool z_]) ?_; simp; done)) ?_; (with_reducible refine (spec_wiFit.calls k a0 _ _ l1 a2 a3 t170 _ ?side1 ?side2 A7.out).mono ?_); (case side1 => repeat (first | exact (Kd.C_below HR1.out HB.out) | (with_reducible refine Kd.C_alloc ?_ _) | (with_reducible refine Kd.C_drewN ?_ _) | (with_reducible refine Kd.C_drew ?_))); (case side2 => exact HC1.out); rintro e w13 ⟨v171, rfl, ho0, hb⟩; refine ⟨_, rfl, ?_⟩; have n0_ := Aside0.mk (Kd.N_lower (Kd.N_mono (ok' := fun k_ => True) ho0 (fun k_ hk_ => trivial)) (below_size (by repeat (first | (with_reducible first | exact HB.out | apply below_alloc | apply pw_below_drewN | apply below_drew1) | exact HB.out)))); have n1_ := Aside0.mk (below_step (by repeat (first | (with_reducible first | exact HB.out | apply below_alloc | apply pw_below_drewN | apply below_drew1) | exact HB.out)) hb); clear HB; have HO172 := n0_; have HB := n1_; clear n0_ n1_; (try clear hb); (try clear hb2); (try clear hk); (try clear hi); (try clear ho0); obtain ⟨Ao14, co14, eo14⟩ := Kd.N_slice HO172.out; subst eo14))
      go_loopg [11, 12] k (fun kq v11 v12 w' => ∃ (x11_1 : ByteArray) (x12_1 : Int), v11 = .string x11_1 ∧ v12 = .int .i64 x12_1 ∧ Aside0 (spec_SureWires.l0 kq a0 t170 x11_1 x12_1 = some (r1, r2)) ∧ Aside0 (kq ≤ k) ∧ Aside0 (Kd.N (Kd.slice 3 (Kd.int .i64)) 24 w' w.heap.size (fun _ => True) (.slice Ao14 t170.length co14) t170) ∧ Aside0 (Below w.heap.size w w'))
      case atStart => exact ⟨((⟨#[]⟩ : ByteArray)), (0), (by first | rfl | (simp; done) | (simp [*]; done)), (by first | rfl | (simp; done) | (simp [*]; done)), H', ⟨Nat.le_refl _⟩, ⟨by (with_reducible repeat (first | apply Kd.N_alloc | apply Kd.N_drewN | apply Kd.N_drew)); exact HO172.out⟩, ⟨by repeat (first | (with_reducible first | exact HB.out | apply below_alloc | apply pw_below_drewN | apply below_drew1) | exact HB.out)⟩⟩
      case round =>
        clear H'
        try clear c1
        try clear c2
        try clear p2
        try clear c3
        try clear c6
        try clear c8
        try clear c8b0
        try clear c8b1
        try clear c8b2
        obtain ⟨x11_1, x12_1, rfl, rfl, HA, HK1, HO_10, HB⟩ := hrel
        cases gk with
        | zero => exact absurd HA.out (by simp [spec_SureWires.l0])
        | succ k1 =>
          have H := HA.out
          clear HA
          simp only [spec_SureWires.l0] at H
          by_cases c15 : x12_1 < a0
          · rw [if_pos c15] at H
            have c15b0 : decide (x12_1 < a0) = true := decide_eq_true c15
            clear c15
            have H' := Aside0.mk H
            clear H
            go_wp2
            go_loopg [13, 37] k1 (fun kq v13 v37 w' => ∃ (x13_2 : Int) (x37_2 : Int), v13 = .int .i64 x13_2 ∧ v37 = .int .i64 x37_2 ∧ Aside0 (spec_SureWires.l1 kq a0 t170 x11_1 x12_1 x13_2 t170 (t170.length : Int) x37_2 = some (r1, r2)) ∧ Aside0 (kq ≤ k1) ∧ Aside0 (Kd.N (Kd.slice 3 (Kd.int .i64)) 24 w' w.heap.size (fun _ => True) (.slice Ao14 t170.length co14) t170) ∧ Aside0 (Kd.N (Kd.slice 3 (Kd.int .i64)) 24 w' w.heap.size (fun _ => True) (.slice Ao14 t170.length co14) t170) ∧ Aside0 (Below w.heap.size w w'))
            case atStart => exact ⟨(0), (0), (by first | rfl | (simp; done) | (simp [*]; done)), (by first | rfl | (simp; done) | (simp [*]; done)), H', ⟨Nat.le_refl _⟩, ⟨by (with_reducible repeat (first | apply Kd.N_alloc | apply Kd.N_drewN | apply Kd.N_drew)); exact HO_10.out⟩, ⟨by (with_reducible repeat (first | apply Kd.N_alloc | apply Kd.N_drewN | apply Kd.N_drew)); exact HO_10.out⟩, ⟨by repeat (first | (with_reducible first | exact HB.out | apply below_alloc | apply pw_below_drewN | apply below_drew1) | exact HB.out)⟩⟩
            case round =>
              clear H'
              try clear c1
              try clear c2
              try clear p2
              try clear c3
              try clear c6
              try clear c8
              try clear c8b0
              try clear c8b1
              try clear c8b2
              try clear c15
              try clear c15b0
              try clear p2
              obtain ⟨x13_2, x37_2, rfl, rfl, HA, HK2, HO_10, HO_35, HB⟩ := hrel
              cases gk with
              | zero => exact absurd HA.out (by simp [spec_SureWires.l1])
              | succ k2 =>
                have H := HA.out
                clear HA
                simp only [spec_SureWires.l1] at H
                by_cases c16 : x37_2 < (t170.length : Int)
                · rw [if_pos c16] at H
                  have c16b0 : decide (x37_2 < (t170.length : Int)) = true := decide_eq_true c16
                  clear c16
                  by_cases c17 : 0 ≤ x37_2
                  · rw [if_pos c17] at H
                    have c17b0 : decide (0 ≤ x37_2) = true := decide_eq_true c17
                    clear c17
                    by_cases c18 : x37_2 < (t170.length : Int)
                    · rw [if_pos c18] at H
                      have c18b0 : decide (x37_2 < (t170.length : Int)) = true := decide_eq_true c18
                      clear c18
                      replace H := Option.bind_eq_some_iff.mp H
                      obtain ⟨t174, A190, H⟩ := H
                      replace H : (if t174 = true then (spec_SureWires.l1 k2 a0 t170 x11_1 x12_1 (wrap64 (x13_2 + 1)) t170 (t170.length : Int) (wrap64 (x37_2 + 1))) else (spec_SureWires.l1 k2 a0 t170 x11_1 x12_1 x13_2 t170 (t170.length : Int) (wrap64 (x37_2 + 1)))) = some (r1, r2) := H
                      have A19 := Aside0.mk A190
                      clear A190
                      by_cases c20 : t174 = true
                      · subst c20
                        have H1 : (spec_SureWires.l1 k2 a0 t170 x11_1 x12_1 (wrap64 (x13_2 + 1)) t170 (t170.length : Int) (wrap64 (x37_2 + 1))) = some (r1, r2) := by rw [if_pos rfl] at H; exact H
                        clear H
                        have H := H1
                        clear H1
                        have H' := Aside0.mk H
                        clear H
                        have p173 : 0 ≤ (x37_2 : Int) := of_decide_eq_true (by first | (with_reducible assumption) | assumption)
                        have q173 : x37_2 < (t170.length : Int) := of_decide_eq_true (by first | (with_reducible assumption) | assumption)
                        obtain ⟨ad173, A173_0, c173_0, e173, hx173_0, hl173_0, hi173_0⟩ := at_L1 (Kd.N_reads' HO_35.out).2.2 x37_2 p173 q173
                        cases e173
                        obtain ⟨ce173, hce173, hMe173, hcc173⟩ := Kd.N_get HO_35.out [] x37_2 p173 (by first | exact q173 | exact of_decide_eq_true (by first | (with_reducible assumption) | assumption) | (have e_ := (Kd.N_reads' HO_35.out).1; omega))
                        obtain ⟨ua173_0, uc173_0, rfl, ul173_0, ge173_0⟩ := Kd.FK_slice_open hMe173
                        have hv173_0 := hcc173 0 _ rfl
                        rw [Nat.add_zero, show ((Kd.slice 3 (Kd.int .i64))).sz = 1 from rfl, Nat.mul_one] at hv173_0
                        replace hv173_0 := Option.some.inj (hv173_0.symm.trans hx173_0)
                        injection hv173_0 with hva_ hvn_ hvc_
                        rw [hva_] at ge173_0
                        rw [hvc_] at ul173_0
                        have HL173_0 := Aside0.mk (show Kd.V (Kd.int .i64) 3 _ w.heap.size _ _ (rd_L1 t170 x37_2) from Kd.V_mk ul173_0 ge173_0)
                        clear hva_ hvn_ hvc_ ge173_0 ul173_0
                        clear hcc173 hce173
                        have HR173_0 := Aside0.mk hi173_0
                        have HC173_0 := Aside0.mk hl173_0
                        clear hi173_0 hl173_0
                        replace p173 := eq_true p173
                        replace q173 := eq_true q173
                        go_wp2_with (first | ((with_reducible refine gate_callee (f := 28) rfl ?_); refine goesL_ (some 43) rfl rfl Tryd.func28 (by kernel_rfl) rfl #[.slice A173_0 (rd_L1 t170 x37_2).length c173_0, .int .i64 x12_1] rfl (by (try simp only [List.map_toArray, List.map_cons, List.map_nil]); first | done | rfl | (simp only [List.length_drop, List.length_take]; rfl) | (simp; done) | (refine congrArg Value.bool ?_; simp; done) | (refine congrArg (fun z_ => #[Value.bool z_]) ?_; simp; done)) ?_; (with_reducible refine (spec_l1Has.calls k2 _ _ (rd_L1 t170 x37_2) x12_1 true _ ?side1 ?side2 A19.out).mono ?_); (case side1 => repeat (first | exact (by repeat (first | (with_reducible exact HR173_0.out) | (with_reducible refine Kd.C_alloc ?_ _) | (with_reducible refine Kd.C_drewN ?_ _) | (with_reducible refine Kd.C_drew ?_) | exact HR173_0.out)) | (with_reducible refine Kd.C_alloc ?_ _) | (with_reducible refine Kd.C_drewN ?_ _) | (with_reducible refine Kd.C_drew ?_))); (case side2 => exact HC173_0.out); rintro e w' ⟨rfl, ⟨nd, rfl⟩⟩; refine ⟨_, rfl, ?_⟩))
                        go_roundg k2
                        case measure => have := HK1.out; have := HK2.out; omega
                        case rel => exact ⟨(wrap64 (x13_2 + 1)), (wrap64 (x37_2 + 1)), (by first | rfl | (simp; done) | (simp [*]; done)), (by first | rfl | (simp; done) | (simp [*]; done)), H', ⟨by have := HK1.out; have := HK2.out; omega⟩, ⟨by (with_reducible repeat (first | apply Kd.N_alloc | apply Kd.N_drewN | apply Kd.N_drew)); exact HO_10.out⟩, ⟨by (with_reducible repeat (first | apply Kd.N_alloc | apply Kd.N_drewN | apply Kd.N_drew)); exact HO_35.out⟩, ⟨by repeat (first | (with_reducible first | exact HB.out | apply below_alloc | apply pw_below_drewN | apply below_drew1) | exact HB.out)⟩⟩
                      · replace c20 := Bool.eq_false_iff.mpr c20
                        subst c20
                        have H1 : (spec_SureWires.l1 k2 a0 t170 x11_1 x12_1 x13_2 t170 (t170.length : Int) (wrap64 (x37_2 + 1))) = some (r1, r2) := by rw [if_neg (show ¬ (false = true) by decide)] at H; exact H
                        clear H
                        have H := H1
                        clear H1
                        have H' := Aside0.mk H
                        clear H
                        have p173 : 0 ≤ (x37_2 : Int) := of_decide_eq_true (by first | (with_reducible assumption) | assumption)
                        have q173 : x37_2 < (t170.length : Int) := of_decide_eq_true (by first | (with_reducible assumption) | assumption)
                        obtain ⟨ad173, A173_0, c173_0, e173, hx173_0, hl173_0, hi173_0⟩ := at_L1 (Kd.N_reads' HO_35.out).2.2 x37_2 p173 q173
                        cases e173
                        obtain ⟨ce173, hce173, hMe173, hcc173⟩ := Kd.N_get HO_35.out [] x37_2 p173 (by first | exact q173 | exact of_decide_eq_true (by first | (with_reducible assumption) | assumption) | (have e_ := (Kd.N_reads' HO_35.out).1; omega))
                        obtain ⟨ua173_0, uc173_0, rfl, ul173_0, ge173_0⟩ := Kd.FK_slice_open hMe173
                        have hv173_0 := hcc173 0 _ rfl
                        rw [Nat.add_zero, show ((Kd.slice 3 (Kd.int .i64))).sz = 1 from rfl, Nat.mul_one] at hv173_0
                        replace hv173_0 := Option.some.inj (hv173_0.symm.trans hx173_0)
                        injection hv173_0 with hva_ hvn_ hvc_
                        rw [hva_] at ge173_0
                        rw [hvc_] at ul173_0
                        have HL173_0 := Aside0.mk (show Kd.V (Kd.int .i64) 3 _ w.heap.size _ _ (rd_L1 t170 x37_2) from Kd.V_mk ul173_0 ge173_0)
                        clear hva_ hvn_ hvc_ ge173_0 ul173_0
                        clear hcc173 hce173
                        have HR173_0 := Aside0.mk hi173_0
                        have HC173_0 := Aside0.mk hl173_0
                        clear hi173_0 hl173_0
                        replace p173 := eq_true p173
                        replace q173 := eq_true q173
                        go_wp2_with (first | ((with_reducible refine gate_callee (f := 28) rfl ?_); refine goesL_ (some 43) rfl rfl Tryd.func28 (by kernel_rfl) rfl #[.slice A173_0 (rd_L1 t170 x37_2).length c173_0, .int .i64 x12_1] rfl (by (try simp only [List.map_toArray, List.map_cons, List.map_nil]); first | done | rfl | (simp only [List.length_drop, List.length_take]; rfl) | (simp; done) | (refine congrArg Value.bool ?_; simp; done) | (refine congrArg (fun z_ => #[Value.bool z_]) ?_; simp; done)) ?_; (with_reducible refine (spec_l1Has.calls k2 _ _ (rd_L1 t170 x37_2) x12_1 false _ ?side1 ?side2 A19.out).mono ?_); (case side1 => repeat (first | exact (by repeat (first | (with_reducible exact HR173_0.out) | (with_reducible refine Kd.C_alloc ?_ _) | (with_reducible refine Kd.C_drewN ?_ _) | (with_reducible refine Kd.C_drew ?_) | exact HR173_0.out)) | (with_reducible refine Kd.C_alloc ?_ _) | (with_reducible refine Kd.C_drewN ?_ _) | (with_reducible refine Kd.C_drew ?_))); (case side2 => exact HC173_0.out); rintro e w' ⟨rfl, ⟨nd, rfl⟩⟩; refine ⟨_, rfl, ?_⟩))
                        go_roundg k2
                        case measure => have := HK1.out; have := HK2.out; omega
                        case rel => exact ⟨(x13_2), (wrap64 (x37_2 + 1)), (by first | rfl | (simp; done) | (simp [*]; done)), (by first | rfl | (simp; done) | (simp [*]; done)), H', ⟨by have := HK1.out; have := HK2.out; omega⟩, ⟨by (with_reducible repeat (first | apply Kd.N_alloc | apply Kd.N_drewN | apply Kd.N_drew)); exact HO_10.out⟩, ⟨by (with_reducible repeat (first | apply Kd.N_alloc | apply Kd.N_drewN | apply Kd.N_drew)); exact HO_35.out⟩, ⟨by repeat (first | (with_reducible first | exact HB.out | apply below_alloc | apply pw_below_drewN | apply below_drew1) | exact HB.out)⟩⟩
                    · rw [if_neg c18] at H
                      exact absurd H (by simp)
                  · rw [if_neg c17] at H
                    exact absurd H (by simp)
                · rw [if_neg c16] at H
                  have c16b0 : decide (x37_2 < (t170.length : Int)) = false := decide_eq_false c16
                  clear c16
                  by_cases c21 : x13_2 = 0
                  · rw [if_pos c21] at H
                    have c21b0 : (x13_2 == 0) = true := beq_iff_eq.mpr c21
                    have c21b1 : (x13_2 != 0) = false := bne_eq_false_iff_eq.mpr c21
                    clear c21
                    by_cases c22 : x11_1.size + 1 ≤ 9223372036854775807
                    · rw [if_pos c22] at H
                      have c22b0 := eq_true c22
                      have c22b1 : decide (x11_1.size + 1 ≤ 9223372036854775807) = true := decide_eq_true c22
                      try have c22b2 : (9223372036854775807 < x11_1.size + 1) = False := eq_false (Nat.not_lt.2 c22)
                      have H' := Aside0.mk H
                      clear H
                      go_wp2
                      go_roundg k2
                      case measure => have := HK1.out; have := HK2.out; omega
                      case rel => exact ⟨(x11_1 ++ (⟨#[111]⟩ : ByteArray)), (wrap64 (x12_1 + 1)), (by first | rfl | (simp; done) | (simp [*]; done)), (by first | rfl | (simp; done) | (simp [*]; done)), H', ⟨by have := HK1.out; have := HK2.out; omega⟩, ⟨by (with_reducible repeat (first | apply Kd.N_alloc | apply Kd.N_drewN | apply Kd.N_drew)); exact HO_10.out⟩, ⟨by repeat (first | (with_reducible first | exact HB.out | apply below_alloc | apply pw_below_drewN | apply below_drew1) | exact HB.out)⟩⟩
                    · rw [if_neg c22] at H
                      exact absurd H (by simp)
                  · rw [if_neg c21] at H
                    have c21b0 : (x13_2 == 0) = false := beq_eq_false_iff_ne.mpr c21
                    have c21b1 : (x13_2 != 0) = true := bne_iff_ne.mpr c21
                    by_cases c23 : x13_2 = (t170.length : Int)
                    · rw [if_pos c23] at H
                      have c23b0 : (x13_2 == (t170.length : Int)) = true := beq_iff_eq.mpr c23
                      have c23b1 : (x13_2 != (t170.length : Int)) = false := bne_eq_false_iff_eq.mpr c23
                      clear c23
                      by_cases c24 : x11_1.size + 1 ≤ 9223372036854775807
                      · rw [if_pos c24] at H
                        have c24b0 := eq_true c24
                        have c24b1 : decide (x11_1.size + 1 ≤ 9223372036854775807) = true := decide_eq_true c24
                        try have c24b2 : (9223372036854775807 < x11_1.size + 1) = False := eq_false (Nat.not_lt.2 c24)
                        have H' := Aside0.mk H
                        clear H
                        go_wp2
                        go_roundg k2
                        case measure => have := HK1.out; have := HK2.out; omega
                        case rel => exact ⟨(x11_1 ++ (⟨#[120]⟩ : ByteArray)), (wrap64 (x12_1 + 1)), (by first | rfl | (simp; done) | (simp [*]; done)), (by first | rfl | (simp; done) | (simp [*]; done)), H', ⟨by have := HK1.out; have := HK2.out; omega⟩, ⟨by (with_reducible repeat (first | apply Kd.N_alloc | apply Kd.N_drewN | apply Kd.N_drew)); exact HO_10.out⟩, ⟨by repeat (first | (with_reducible first | exact HB.out | apply below_alloc | apply pw_below_drewN | apply below_drew1) | exact HB.out)⟩⟩
                      · rw [if_neg c24] at H
                        exact absurd H (by simp)
                    · rw [if_neg c23] at H
                      have c23b0 : (x13_2 == (t170.length : Int)) = false := beq_eq_false_iff_ne.mpr c23
                      have c23b1 : (x13_2 != (t170.length : Int)) = true := bne_iff_ne.mpr c23
                      by_cases c25 : x11_1.size + 1 ≤ 9223372036854775807
                      · rw [if_pos c25] at H
                        have c25b0 := eq_true c25
                        have c25b1 : decide (x11_1.size + 1 ≤ 9223372036854775807) = true := decide_eq_true c25
                        try have c25b2 : (9223372036854775807 < x11_1.size + 1) = False := eq_false (Nat.not_lt.2 c25)
                        have H' := Aside0.mk H
                        clear H
                        go_wp2
                        go_roundg k2
                        case measure => have := HK1.out; have := HK2.out; omega
                        case rel => exact ⟨(x11_1 ++ (⟨#[63]⟩ : ByteArray)), (wrap64 (x12_1 + 1)), (by first | rfl | (simp; done) | (simp [*]; done)), (by first | rfl | (simp; done) | (simp [*]; done)), H', ⟨by have := HK1.out; have := HK2.out; omega⟩, ⟨by (with_reducible repeat (first | apply Kd.N_alloc | apply Kd.N_drewN | apply Kd.N_drew)); exact HO_10.out⟩, ⟨by repeat (first | (with_reducible first | exact HB.out | apply below_alloc | apply pw_below_drewN | apply below_drew1) | exact HB.out)⟩⟩
                      · rw [if_neg c25] at H
                        exact absurd H (by simp)
          · rw [if_neg c15] at H
            have c15b0 : decide (x12_1 < a0) = false := decide_eq_false c15
            clear c15
            simp only [Option.some.injEq, Prod.mk.injEq] at H
            obtain ⟨rfl, rfl⟩ := H
            go_wp2
            go_ret2
            exact ⟨by first | rfl | (simp [errW_none, errW_some] <;> rfl) | (simp [*, errW_none, errW_some] <;> rfl), by repeat (first | (with_reducible first | exact HB.out | apply below_alloc | apply pw_below_drewN | apply below_drew1) | exact HB.out)⟩
  · replace c6 := Bool.eq_false_iff.mpr c6
    subst c6
    have H1 : (some ((⟨#[]⟩ : ByteArray), false)) = some (r1, r2) := by rw [if_neg (show ¬ (false = true) by decide)] at H; exact H
    clear H
    have H := H1
    clear H1
    simp only [Option.some.injEq, Prod.mk.injEq] at H
    obtain ⟨rfl, rfl⟩ := H
    go_enter Tryd.func22, Tryd.ntmps22
    go_wp2_with (first | ((with_reducible refine gate_callee (f := 27) rfl ?_); refine goesL_ (some 20) rfl rfl Tryd.func27 (by kernel_rfl) rfl #[.int .i64 a0, .slice A1 l1.length c1, .string a2, .int .i64 a3] rfl (by (try simp only [List.map_toArray, List.map_cons, List.map_nil]); first | done | rfl | (simp only [List.length_drop, List.length_take]; rfl) | (simp; done) | (refine congrArg Value.bool ?_; simp; done) | (refine congrArg (fun z_ => #[Value.bool z_]) ?_; simp; done)) ?_; (with_reducible refine (spec_wiAsked.calls k a0 _ _ l1 a2 a3 false _ ?side1 ?side2 A5.out).mono ?_); (case side1 => repeat (first | exact HR1.out | (with_reducible refine Kd.C_alloc ?_ _) | (with_reducible refine Kd.C_drewN ?_ _) | (with_reducible refine Kd.C_drew ?_))); (case side2 => exact HC1.out); rintro e w26 ⟨rfl, hb⟩; refine ⟨_, rfl, ?_⟩; have n0_ := Aside0.mk (below_step (by repeat (first | (with_reducible first | exact HB.out | apply below_alloc | apply pw_below_drewN | apply below_drew1) | exact HB.out)) hb); clear HB; have HB := n0_; clear n0_; (try clear hb); (try clear hb2); (try clear hk); (try clear hi)))
    go_ret2
    exact ⟨by first | rfl | (simp [errW_none, errW_some] <;> rfl) | (simp [*, errW_none, errW_some] <;> rfl), by repeat (first | (with_reducible first | exact HB.out | apply below_alloc | apply pw_below_drewN | apply below_drew1) | exact HB.out)⟩

/-! ### impl_within: function 46 -/
def impl_within.f (a0 : Int) (a1 : Int) (a2 : Int) : Option (Bool) := if a1 ≤ a0 then (some (decide (a0 ≤ a2))) else (some false)
set_option maxHeartbeats 8000000 in
set_option maxRecDepth 100000 in
theorem impl_within.calls (a0 : Int) (a1 : Int) (a2 : Int) (r : Bool) (w : World) (h : impl_within.f a0 a1 a2 = some r) :
    Calls Tryd.prog 46 #[.int .i64 a0, .int .i64 a1, .int .i64 a2] w fun e w' => e = .returned (.bool r) ∧ Drawn0 w w' := by
  have H : (if a1 ≤ a0 then (some (decide (a0 ≤ a2))) else (some false)) = some r := h
  clear h
  by_cases c4 : a1 ≤ a0
  · rw [if_pos c4] at H
    have c4b0 : decide (a1 ≤ a0) = true := decide_eq_true c4
    clear c4
    obtain rfl := Option.some.inj H
    go_enter Tryd.func46, Tryd.ntmps46
    go_wp2
    go_ret
    exact ⟨by first | rfl | (simp; done) | (simp [*]; done), by repeat (first | exact Drawn0.refl _ | apply Drawn0.step)⟩
  · rw [if_neg c4] at H
    have c4b0 : decide (a1 ≤ a0) = false := decide_eq_false c4
    clear c4
    obtain rfl := Option.some.inj H
    go_enter Tryd.func46, Tryd.ntmps46
    go_wp2
    go_ret
    exact ⟨by first | rfl | (simp; done) | (simp [*]; done), by repeat (first | exact Drawn0.refl _ | apply Drawn0.step)⟩

/-! ### impl_areTested: function 56 -/
def impl_areTested.f (a0 : Int) : Option (Bool) := (impl_within.f a0 1 10).bind fun t175 => (some t175)
set_option maxHeartbeats 8000000 in
set_option maxRecDepth 100000 in
theorem impl_areTested.calls (a0 : Int) (r : Bool) (w : World) (h : impl_areTested.f a0 = some r) :
    Calls Tryd.prog 56 #[.int .i64 a0] w fun e w' => e = .returned (.bool r) ∧ Drawn0 w w' := by
  have H : ((impl_within.f a0 1 10).bind fun t175 => (some t175)) = some r := h
  clear h
  replace H := Option.bind_eq_some_iff.mp H
  obtain ⟨t175, A20, H⟩ := H
  replace H : (some t175) = some r := H
  have A2 := Aside0.mk A20
  clear A20
  obtain rfl := Option.some.inj H
  go_enter Tryd.func56, Tryd.ntmps56
  go_wp2_with (first | ((with_reducible refine gate_callee (f := 46) rfl ?_); refine goesL_ (some 4) rfl rfl Tryd.func46 (by kernel_rfl) rfl #[.int .i64 a0, .int .i64 1, .int .i64 10] rfl (by (try simp only [List.map_toArray, List.map_cons, List.map_nil]); first | done | rfl | (simp only [List.length_drop, List.length_take]; rfl) | (simp; done) | (refine congrArg Value.bool ?_; simp; done) | (refine congrArg (fun z_ => #[Value.bool z_]) ?_; simp; done)) ?_; (with_reducible refine (impl_within.calls a0 1 10 t175 _ A2.out).mono ?_); rintro e w' ⟨rfl, ⟨nd, rfl⟩⟩; refine ⟨_, rfl, ?_⟩))
  go_ret
  exact ⟨by first | rfl | (simp; done) | (simp [*]; done), by repeat (first | exact Drawn0.refl _ | apply Drawn0.step)⟩

-- NOT PRINTED: function 72 (slices_IndexFunc_int_int_72)

-- NOT PRINTED: function 57 (slices_ContainsFunc_int_int_57)

-- NOT PRINTED: function 99 (slices_IndexFunc_int_int_99)

-- NOT PRINTED: function 89 (slices_ContainsFunc_int_int_89)

/-! ### impl_areWithin_1: function 90 -/
/-- Is a number between two? -/
def impl_areWithin_1.in_ (lo hi x : Int) : Bool := decide (lo ≤ x) && decide (x ≤ hi)
theorem impl_areWithin_1.within (lo hi x : Int) (w : World) : Calls Tryd.prog 46 #[.int .i64 x, .int .i64 lo, .int .i64 hi] w fun e w' => e = .returned (.bool (impl_areWithin_1.in_ lo hi x)) ∧ Drawn0 w w' := by
  refine (impl_within.calls x lo hi (impl_areWithin_1.in_ lo hi x) w ?_).mono (fun _ _ h => h)
  unfold impl_within.f impl_areWithin_1.in_
  by_cases h : lo ≤ x
  · rw [if_pos h]; simp [h]
  · rw [if_neg h]; simp [h]
theorem impl_areWithin_1.clos (B1 B2 : Nat) (lo hi : Int) (x : Int) (w : World) (h1 : w.cell? ⟨B1, 0, none⟩ = some (.int .i64 lo)) (h2 : w.cell? ⟨B2, 0, none⟩ = some (.int .i64 hi)) :
    Calls Tryd.prog 90 #[.int .i64 x, .pointer (some ⟨B1, 0, none⟩), .pointer (some ⟨B2, 0, none⟩)] w fun e w' => e = .returned (.bool (!impl_areWithin_1.in_ lo hi x)) ∧ Below w.heap.size w w' := by
  have hw := fun (W : World) => impl_areWithin_1.within lo hi x W
  generalize impl_areWithin_1.in_ lo hi x = q at hw ⊢
  go_enter Tryd.func90, Tryd.ntmps90
  go_wp2_with (go_at_call 46; refine (hw _).mono ?_; rintro e w' ⟨rfl, ⟨nd, rfl⟩⟩)
  go_ret
  exact ⟨by first | rfl | simp, by repeat (first | exact Below.refl _ _ | apply below_alloc | apply pw_below_drewN)⟩
theorem impl_areWithin_1.ret_int {k : IntKind} {a b : Int} (h : a = b) : Ending.returned (.int k a) = .returned (.int k b) := by rw [h]
open Go.Proofs.YtbghdbpaihkcjaaDoorW.Help in
set_option maxHeartbeats 2000000 in
theorem impl_areWithin_1.indexFunc (g : Nat) (lb : Array Value) (p : Int → Bool) (A1 : Option Addr) (c1 : Nat) (l1 : List Int) (w : World) (hr : Kd.C (Kd.int .i64) w A1 l1.length l1)
    (eg : ∀ args w, (callFunc g args).run Tryd.prog w = .ok (.enter g args) w)
    (hp : ∀ (W : World) (x : Int), Below w.heap.size w W → Calls Tryd.prog g (#[.int .i64 x] ++ lb) W fun e W' => e = .returned (.bool (p x)) ∧ Below w.heap.size w W') :
    Calls Tryd.prog 99 #[.slice A1 l1.length c1, .func (.func g) #[] lb] w fun e w' => e = .returned (.int .i64 (fi p l1)) ∧ Below w.heap.size w w' := by
  have hlen : l1.length ≤ 9223372036854775807 := hr.2.1
  have HR := Aside0.mk hr
  have HP := Aside0.mk hp
  clear hr hp
  go_enter Tryd.func99, Tryd.ntmps99
  go_wp2
  go_loopg [5, 8] l1.length (fun gg _ s8 wr => ∃ x : Int, s8 = .int .i64 x ∧ Aside0 (0 ≤ x ∧ x ≤ (l1.length : Int) ∧ l1.length - x.toNat ≤ gg) ∧ Aside0 (Below w.heap.size w wr) ∧ Aside0 (∀ j, j < x.toNat → p (l1.getD j (0 : Int)) = false))
  case atStart => exact ⟨0, rfl, ⟨by omega, by omega, by simp⟩, ⟨Below.refl _ w⟩, ⟨fun j hj => absurd hj (Nat.not_lt_zero _)⟩⟩
  case round =>
    obtain ⟨x, rfl, HX, BW, A⟩ := hrel
    by_cases hlt : x < (l1.length : Int)
    · have p0 : 0 ≤ x := HX.out.1
      obtain ⟨ad, e, hx0⟩ := Kd.at_int HR.out x p0 hlt
      subst e
      replace hx0 := (BW.out.cell (World.block_lt_of_cell? w _ hx0)).trans hx0
      have hcall := HP.out wr (rd l1 x) BW.out
      have B : Aside0 (l1.getD x.toNat (0 : Int) = rd l1 x) := ⟨rfl⟩
      have HL := Aside0.mk hlt
      have d1 : decide (x < (l1.length : Int)) = true := decide_eq_true hlt
      have d0 : decide (0 ≤ x) = true := decide_eq_true p0
      replace p0 := eq_true p0
      replace hlt := eq_true hlt
      clear HP HR
      generalize rd l1 x = y at hcall hx0 B
      cases hq : p y with
      | true =>
        rw [hq] at hcall
        have HQ := Aside0.mk hq
        clear hq
        go_wp2_with fail
        refine hcall.mono ?_
        rintro e w' ⟨rfl, hb'⟩
        go_wp2
        go_ret
        exact ⟨impl_areWithin_1.ret_int (by rw [fi_hit (0 : Int) (k := x.toNat) (by have := HL.out; have := HX.out; omega) (by rw [B.out]; exact HQ.out) A.out, Int.toNat_of_nonneg HX.out.1]), hb'⟩
      | false =>
        rw [hq] at hcall
        have HQ := Aside0.mk hq
        clear hq
        go_wp2_with fail
        refine hcall.mono ?_
        rintro e w' ⟨rfl, hb'⟩
        go_wp2
        go_roundg (l1.length - (x.toNat + 1))
        case measure => have := HL.out; have := HX.out; omega
        case rel =>
          have h1 := HL.out
          have h2 := HX.out
          refine ⟨x + 1, by first | rfl | (rw [show wrap64 (x + 1) = x + 1 by unfold wrap64; omega]), ⟨by omega, by omega, by omega⟩, ⟨hb'⟩, ⟨fun j hj => ?_⟩⟩
          by_cases e : j = x.toNat
          · rw [e, B.out]; exact HQ.out
          · exact A.out j (by omega)
    · have HL := Aside0.mk hlt
      have d1 : decide (x < (l1.length : Int)) = false := decide_eq_false hlt
      clear hlt
      go_wp2
      go_ret
      exact ⟨impl_areWithin_1.ret_int (by rw [fi_miss (0 : Int) (fun j hj => A.out j (by have := HL.out; have := HX.out; omega))]), BW.out⟩
open Go.Proofs.YtbghdbpaihkcjaaDoorW.Help in
theorem impl_areWithin_1.containsFunc (g : Nat) (lb : Array Value) (p : Int → Bool) (A1 : Option Addr) (c1 : Nat) (l1 : List Int) (w : World) (hr : Kd.C (Kd.int .i64) w A1 l1.length l1)
    (eg : ∀ args w, (callFunc g args).run Tryd.prog w = .ok (.enter g args) w)
    (hp : ∀ (W : World) (x : Int), Below w.heap.size w W → Calls Tryd.prog g (#[.int .i64 x] ++ lb) W fun e W' => e = .returned (.bool (p x)) ∧ Below w.heap.size w W') :
    Calls Tryd.prog 89 #[.slice A1 l1.length c1, .func (.func g) #[] lb] w fun e w' => e = .returned (.bool (l1.any p)) ∧ Below w.heap.size w w' := by
  have hcon := impl_areWithin_1.indexFunc g lb p A1 c1 l1 w hr eg hp
  have e1 : Aside0 (decide (fi p l1 ≥ 0) = l1.any p) := ⟨fi_ge p l1⟩
  generalize fi p l1 = r at hcon e1
  clear hr eg hp
  go_enter Tryd.func89, Tryd.ntmps89
  go_wp2_with (go_at_call 99; refine hcon.mono ?_; rintro e w' ⟨rfl, hb'⟩)
  go_ret
  exact ⟨by rw [← e1.out]; rfl, hb'⟩
def impl_areWithin_1.f (l0 : List Int) (lo hi : Int) : Option Bool := some (l0.any fun x => !impl_areWithin_1.in_ lo hi x)
theorem impl_areWithin_1.calls (A0 : Option Addr) (c0 : Nat) (l0 : List Int) (B1 : Nat) (lo : Int) (B2 : Nat) (hi : Int) (r : Bool) (w : World) (hr0 : Kd.C (Kd.int .i64) w A0 l0.length l0) (hc0 : l0.length ≤ c0) (hB1 : w.heap[B1]? = some (.cells #[.int .i64 lo] 3 (0, 0))) (hB2 : w.heap[B2]? = some (.cells #[.int .i64 hi] 3 (0, 0))) (h : impl_areWithin_1.f l0 lo hi = some r) :
    Calls Tryd.prog 89 #[.slice A0 l0.length c0, .func (.func 90) #[] #[.pointer (some ⟨B1, 0, none⟩), .pointer (some ⟨B2, 0, none⟩)]] w fun e w' => e = .returned (.bool r) ∧ Below w.heap.size w w' := by
  have eg : ∀ args w, (callFunc 90 args).run Tryd.prog w = .ok (.enter 90 args) w := Go.Proofs.enters_of Tryd.func90 (by kernel_rfl) rfl
  obtain rfl := Option.some.inj h
  have h1 : w.cell? ⟨B1, 0, none⟩ = some (.int .i64 lo) := (blk_cell hB1 0).trans rfl
  have h2 : w.cell? ⟨B2, 0, none⟩ = some (.int .i64 hi) := (blk_cell hB2 0).trans rfl
  have l1 : B1 < w.heap.size := World.block_lt_of_cell? w _ h1
  have l2 : B2 < w.heap.size := World.block_lt_of_cell? w _ h2
  exact impl_areWithin_1.containsFunc _ _ _ A0 c0 l0 w hr0 eg (fun W' x hb' => (impl_areWithin_1.clos B1 B2 lo hi x W' ((hb'.cell (p := ⟨B1, 0, none⟩) l1).trans h1) ((hb'.cell (p := ⟨B2, 0, none⟩) l2).trans h2)).mono fun e w2 ⟨he, hb2⟩ => ⟨he, below_step hb' hb2⟩)


/-! ### impl_areWithin: function 73 -/
def impl_areWithin.f (l0 : List Int) (a1 : Int) (a2 : Int) : Option (Bool) := (impl_areWithin_1.f l0 a1 a2).bind fun t178 => (some (!t178))
set_option maxHeartbeats 8000000 in
set_option maxRecDepth 100000 in
theorem impl_areWithin.calls (A0 : Option Addr) (c0 : Nat) (l0 : List Int) (a1 : Int) (a2 : Int) (r : Bool) (w : World) (hr0 : Kd.C (Kd.int .i64) w A0 l0.length l0) (hc0 : l0.length ≤ c0) (h : impl_areWithin.f l0 a1 a2 = some r) :
    Calls Tryd.prog 73 #[.slice A0 l0.length c0, .int .i64 a1, .int .i64 a2] w fun e w' => e = .returned (.bool r) ∧ Below w.heap.size w w' := by
  have HR0 := Aside0.mk hr0
  have HC0 := Aside0.mk hc0
  clear hr0 hc0
  have HB := Aside0.mk (Below.refl w.heap.size w)
  have H : ((impl_areWithin_1.f l0 a1 a2).bind fun t178 => (some (!t178))) = some r := h
  clear h
  replace H := Option.bind_eq_some_iff.mp H
  obtain ⟨t178, A40, H⟩ := H
  replace H : (some (!t178)) = some r := H
  have A4 := Aside0.mk A40
  clear A40
  obtain rfl := Option.some.inj H
  go_enter Tryd.func73, Tryd.ntmps73
  go_wp2_with (first | ((with_reducible refine gate_dst (N := 4) rfl ?_); refine box_event ?hg (N := 4) ?hd (cs := #[.int .i64 a1]) (t := 3) ?hr ?_; (case hd => rfl); (case hg => rfl); (case hr => first | (go_simp; done) | (go_simp; rfl)); intro gb176 hg w5 hbox hb; have n0_ := Aside0.mk (below_step (by repeat (first | (with_reducible first | exact HB.out | apply below_alloc | apply pw_below_drewN | apply below_drew1) | exact HB.out)) hb); have n1_ := Aside0.mk (hbox); have n2_ := Aside0.mk ((by rw [hg]; exact (below_size (by repeat (first | (with_reducible first | exact HB.out | apply below_alloc | apply pw_below_drewN | apply below_drew1) | exact HB.out))) : w.heap.size ≤ gb176)); have n3_ := Aside0.mk ((by rw [hg]; exact (below_size (by repeat (first | (with_reducible first | exact HB.out | apply below_alloc | apply pw_below_drewN | apply below_drew1) | exact HB.out))) : w.heap.size ≤ gb176)); clear HB; have HB := n0_; have BK176 := n1_; have GW176 := n2_; have GE176 := n3_; clear n0_ n1_ n2_ n3_; clear hb hbox hg) | ((with_reducible refine gate_dst (N := 5) rfl ?_); refine box_event ?hg (N := 5) ?hd (cs := #[.int .i64 a2]) (t := 3) ?hr ?_; (case hd => rfl); (case hg => rfl); (case hr => first | (go_simp; done) | (go_simp; rfl)); intro gb177 hg w6 hbox hb; have n0_ := Aside0.mk (blk_below (g := gb176) (o := .cells #[.int .i64 a1] 3 (0, 0)) (by (with_reducible repeat (first | refine blk_drewN ?_ _ | refine blk_drew ?_ | refine blk_alloc ?_ _)); exact BK176.out) hb); have n1_ := Aside0.mk (below_step (by repeat (first | (with_reducible first | exact HB.out | apply below_alloc | apply pw_below_drewN | apply below_drew1 | refine below_set ?_ GE176.out) | exact HB.out)) hb); have n2_ := Aside0.mk (hbox); have n3_ := Aside0.mk ((by rw [hg]; exact (below_size (by repeat (first | (with_reducible first | exact HB.out | apply below_alloc | apply pw_below_drewN | apply below_drew1 | refine below_set ?_ GE176.out) | exact HB.out))) : w.heap.size ≤ gb177)); have n4_ := Aside0.mk ((by rw [hg]; exact (below_size (by repeat (first | (with_reducible first | exact HB.out | apply below_alloc | apply pw_below_drewN | apply below_drew1 | refine below_set ?_ GE176.out) | exact HB.out))) : w.heap.size ≤ gb177)); have n5_ := Aside0.mk ((by rw [hg]; exact Nat.ne_of_lt (blk_lt (g := gb176) (o := .cells #[.int .i64 a1] 3 (0, 0)) (by (with_reducible repeat (first | refine blk_drewN ?_ _ | refine blk_drew ?_ | refine blk_alloc ?_ _)); exact BK176.out)) : gb176 ≠ gb177)); have n6_ := Aside0.mk ((by rw [hg]; exact Nat.ne_of_gt (blk_lt (g := gb176) (o := .cells #[.int .i64 a1] 3 (0, 0)) (by (with_reducible repeat (first | refine blk_drewN ?_ _ | refine blk_drew ?_ | refine blk_alloc ?_ _)); exact BK176.out)) : gb177 ≠ gb176)); clear BK176; clear HB; have BK176 := n0_; have HB := n1_; have BK177 := n2_; have GW177 := n3_; have GE177 := n4_; have NB176_177 := n5_; have NB177_176 := n6_; clear n0_ n1_ n2_ n3_ n4_ n5_ n6_; clear hb hbox hg) | ((with_reducible refine gate_callee (f := 89) rfl ?_); refine goesL_ (some 9) rfl rfl Tryd.func89 (by kernel_rfl) rfl #[.slice A0 l0.length c0, .func (.func 90) #[] #[.pointer (some ⟨gb176, 0, none⟩), .pointer (some ⟨gb177, 0, none⟩)]] rfl (by (try simp only [List.map_toArray, List.map_cons, List.map_nil]); first | done | rfl | (simp only [List.length_drop, List.length_take]; rfl) | (simp; done) | (refine congrArg Value.bool ?_; simp; done) | (refine congrArg (fun z_ => #[Value.bool z_]) ?_; simp; done)) ?_; (with_reducible refine (impl_areWithin_1.calls _ _ l0 gb176 a1 gb177 a2  t178 _ ?side1 ?side2 ?side3 ?side4 A4.out).mono ?_); (case side1 => repeat (first | exact (Kd.C_below HR0.out HB.out) | (with_reducible refine Kd.C_alloc ?_ _) | (with_reducible refine Kd.C_drewN ?_ _) | (with_reducible refine Kd.C_drew ?_))); (case side2 => exact HC0.out); (case side3 => exact (by (with_reducible repeat (first | refine blk_drewN ?_ _ | refine blk_drew ?_ | refine blk_alloc ?_ _)); exact BK176.out)); (case side4 => exact (by (with_reducible repeat (first | refine blk_drewN ?_ _ | refine blk_drew ?_ | refine blk_alloc ?_ _)); exact BK177.out)); rintro e w7 ⟨rfl, hb⟩; refine ⟨_, rfl, ?_⟩; have n0_ := Aside0.mk (blk_below (g := gb176) (o := .cells #[.int .i64 a1] 3 (0, 0)) (by (with_reducible repeat (first | refine blk_drewN ?_ _ | refine blk_drew ?_ | refine blk_alloc ?_ _)); exact BK176.out) hb); have n1_ := Aside0.mk (blk_below (g := gb177) (o := .cells #[.int .i64 a2] 3 (0, 0)) (by (with_reducible repeat (first | refine blk_drewN ?_ _ | refine blk_drew ?_ | refine blk_alloc ?_ _)); exact BK177.out) hb); have n2_ := Aside0.mk (below_step (by repeat (first | (with_reducible first | exact HB.out | apply below_alloc | apply pw_below_drewN | apply below_drew1 | refine below_set ?_ GE176.out | refine below_set ?_ GE177.out) | exact HB.out)) hb); clear BK176; clear BK177; clear HB; have BK176 := n0_; have BK177 := n1_; have HB := n2_; clear n0_ n1_ n2_; (try clear hb); (try clear hb2); (try clear hk); (try clear hi)))
  go_ret
  exact ⟨by first | rfl | (simp [errW_none, errW_some] <;> rfl) | (simp [*, errW_none, errW_some] <;> rfl), by repeat (first | (with_reducible first | exact HB.out | apply below_alloc | apply pw_below_drewN | apply below_drew1 | refine below_set ?_ GE176.out | refine below_set ?_ GE177.out) | exact HB.out)⟩

/-! ### impl_isRising: function 59 -/
def impl_isRising.l0 : Nat → Int → List Int → Int → Option (Bool)
  | 0, _, _, _ => none
  | k + 1, x0, x1, x5 => if x5 < (x1.length : Int) then (if 0 ≤ x5 then (if 0 ≤ (wrap64 (x5 - 1)) then (if (wrap64 (x5 - 1)) < (x1.length : Int) then (if (rd x1 x5) ≤ (rd x1 (wrap64 (x5 - 1))) then (some false) else (impl_isRising.l0 k x0 x1 (wrap64 (x5 + 1)))) else (none)) else (none)) else (none)) else ((impl_areWithin.f x1 0 (wrap64 (x0 - 1))).bind fun t181 => (some t181))
def impl_isRising.f (k : Nat) (a0 : Int) (l1 : List Int) : Option (Bool) := impl_isRising.l0 k a0 l1 1
theorem impl_isRising.mono_l : ∀ k, (∀ y0 y1 y2, LeO (impl_isRising.l0 k y0 y1 y2) (impl_isRising.l0 (k + 1) y0 y1 y2))
  | 0 => fun _ _ _ r h => by simp [impl_isRising.l0] at h
  | k + 1 => by
    have ih0 := impl_isRising.mono_l k
    · intro y0 y1 y2
      unfold impl_isRising.l0
      repeat' first
      | (with_reducible exact ih0 _ _ _)
      | (with_reducible exact LeO.refl _)
      | (with_reducible exact LeO.none _)
      | (with_reducible refine LeO.ite ?_ ?_)
      | (with_reducible refine LeO.bind ?_ (fun _ => ?_))
      | exact ih0 _ _ _
      | exact LeO.none _
      | refine LeO.ite ?_ ?_
      | refine LeO.bind ?_ (fun _ => ?_)
theorem impl_isRising.mono : ∀ a0 a1 k, LeO (impl_isRising.f k a0 a1) (impl_isRising.f (k + 1) a0 a1) := by
  intro a0 a1 k
  have ih0 := impl_isRising.mono_l k
  unfold impl_isRising.f
  repeat' first
      | (with_reducible exact ih0 _ _ _)
      | (with_reducible exact LeO.refl _)
      | (with_reducible exact LeO.none _)
      | (with_reducible refine LeO.ite ?_ ?_)
      | (with_reducible refine LeO.bind ?_ (fun _ => ?_))
      | exact ih0 _ _ _
      | exact LeO.none _
      | refine LeO.ite ?_ ?_
      | refine LeO.bind ?_ (fun _ => ?_)
set_option maxHeartbeats 8000000 in
set_option maxRecDepth 100000 in
theorem impl_isRising.calls (k : Nat) (a0 : Int) (A1 : Option Addr) (c1 : Nat) (l1 : List Int) (r : Bool) (w : World) (hr1 : Kd.C (Kd.int .i64) w A1 l1.length l1) (hc1 : l1.length ≤ c1) (h : impl_isRising.f k a0 l1 = some r) :
    Calls Tryd.prog 59 #[.int .i64 a0, .slice A1 l1.length c1] w fun e w' => e = .returned (.bool r) ∧ Below w.heap.size w w' := by
  have HR1 := Aside0.mk hr1
  have HC1 := Aside0.mk hc1
  clear hr1 hc1
  have HB := Aside0.mk (Below.refl w.heap.size w)
  have H : (impl_isRising.l0 k a0 l1 1) = some r := h
  clear h
  have H' := Aside0.mk H
  clear H
  go_enter Tryd.func59, Tryd.ntmps59
  go_wp2
  repeat (go_quiet (fail); try go_wp2)
  go_loopg [5] k (fun kq v5 w' => ∃ (x5_1 : Int), v5 = .int .i64 x5_1 ∧ Aside0 (impl_isRising.l0 kq a0 l1 x5_1 = some r) ∧ Aside0 (kq ≤ k) ∧ Aside0 (Below w.heap.size w w'))
  case atStart => exact ⟨(1), (by first | rfl | (simp; done) | (simp [*]; done)), H', ⟨Nat.le_refl _⟩, ⟨by repeat (first | (with_reducible first | exact HB.out | apply below_alloc | apply pw_below_drewN | apply below_drew1) | exact HB.out)⟩⟩
  case round =>
    clear H'
    try clear c1
    try clear p2
    obtain ⟨x5_1, rfl, HA, HK1, HB⟩ := hrel
    cases gk with
    | zero => exact absurd HA.out (by simp [impl_isRising.l0])
    | succ k1 =>
      have H := HA.out
      clear HA
      simp only [impl_isRising.l0] at H
      by_cases c3 : x5_1 < (l1.length : Int)
      · rw [if_pos c3] at H
        have c3b0 : decide (x5_1 < (l1.length : Int)) = true := decide_eq_true c3
        clear c3
        by_cases c4 : 0 ≤ x5_1
        · rw [if_pos c4] at H
          have c4b0 : decide (0 ≤ x5_1) = true := decide_eq_true c4
          clear c4
          obtain ⟨ji5, hji5⟩ : ∃ j_ : Int, (wrap64 (x5_1 - 1)) = j_ := ⟨_, rfl⟩
          replace H : (if 0 ≤ (ji5) then (if (ji5) < (l1.length : Int) then (if (rd l1 x5_1) ≤ (rd l1 (ji5)) then (some false) else (impl_isRising.l0 k1 a0 l1 (wrap64 (x5_1 + 1)))) else (none)) else (none)) = some r := by first | (rw [hji5] at H; exact H) | (simp only [hji5] at H ⊢; exact H)
          have hji5w : (IntKind.i64.wrap (x5_1 - 1)) = ji5 := (i64_w _).trans hji5
          by_cases c6 : 0 ≤ (ji5)
          · rw [if_pos c6] at H
            have c6b0 : decide (0 ≤ (ji5)) = true := decide_eq_true c6
            clear c6
            by_cases c7 : (ji5) < (l1.length : Int)
            · rw [if_pos c7] at H
              have c7b0 : decide ((ji5) < (l1.length : Int)) = true := decide_eq_true c7
              clear c7
              by_cases c8 : (rd l1 x5_1) ≤ (rd l1 (ji5))
              · rw [if_pos c8] at H
                have c8b0 : decide ((rd l1 x5_1) ≤ (rd l1 (ji5))) = true := decide_eq_true c8
                clear c8
                obtain rfl := Option.some.inj H
                have p179 : 0 ≤ (x5_1 : Int) := of_decide_eq_true (by first | (with_reducible assumption) | assumption)
                have q179 : x5_1 < (l1.length : Int) := of_decide_eq_true (by first | (with_reducible assumption) | assumption)
                obtain ⟨ad179, e179, hx179_0⟩ := Kd.at_int HR1.out x5_1 p179 q179
                cases e179
                replace hx179_0 := (HB.out.cell (World.block_lt_of_cell? w _ hx179_0)).trans hx179_0
                replace p179 := eq_true p179
                replace q179 := eq_true q179
                have p180 : 0 ≤ ((ji5) : Int) := of_decide_eq_true (by first | (with_reducible assumption) | assumption)
                have q180 : (ji5) < (l1.length : Int) := of_decide_eq_true (by first | (with_reducible assumption) | assumption)
                obtain ⟨ad180, e180, hx180_0⟩ := Kd.at_int HR1.out (ji5) p180 q180
                obtain rfl : ad179 = ad180 := (by injection e180)
                replace hx180_0 := (HB.out.cell (World.block_lt_of_cell? w _ hx180_0)).trans hx180_0
                replace p180 := eq_true p180
                replace q180 := eq_true q180
                go_wp2
                repeat (go_quiet (fail); try go_wp2)
                go_ret
                exact ⟨by first | rfl | (simp [errW_none, errW_some] <;> rfl) | (simp only [← hji5]; first | rfl | (simp [errW_none, errW_some] <;> rfl)) | (simp [*, errW_none, errW_some] <;> rfl), by repeat (first | (with_reducible first | exact HB.out | apply below_alloc | apply pw_below_drewN | apply below_drew1) | exact HB.out)⟩
              · rw [if_neg c8] at H
                have c8b0 : decide ((rd l1 x5_1) ≤ (rd l1 (ji5))) = false := decide_eq_false c8
                clear c8
                have H' := Aside0.mk H
                clear H
                have p179 : 0 ≤ (x5_1 : Int) := of_decide_eq_true (by first | (with_reducible assumption) | assumption)
                have q179 : x5_1 < (l1.length : Int) := of_decide_eq_true (by first | (with_reducible assumption) | assumption)
                obtain ⟨ad179, e179, hx179_0⟩ := Kd.at_int HR1.out x5_1 p179 q179
                cases e179
                replace hx179_0 := (HB.out.cell (World.block_lt_of_cell? w _ hx179_0)).trans hx179_0
                replace p179 := eq_true p179
                replace q179 := eq_true q179
                have p180 : 0 ≤ ((ji5) : Int) := of_decide_eq_true (by first | (with_reducible assumption) | assumption)
                have q180 : (ji5) < (l1.length : Int) := of_decide_eq_true (by first | (with_reducible assumption) | assumption)
                obtain ⟨ad180, e180, hx180_0⟩ := Kd.at_int HR1.out (ji5) p180 q180
                obtain rfl : ad179 = ad180 := (by injection e180)
                replace hx180_0 := (HB.out.cell (World.block_lt_of_cell? w _ hx180_0)).trans hx180_0
                replace p180 := eq_true p180
                replace q180 := eq_true q180
                go_wp2
                repeat (go_quiet (fail); try go_wp2)
                go_roundg k1
                case measure => have := HK1.out; omega
                case rel => exact ⟨(wrap64 (x5_1 + 1)), (by first | rfl | (simp; done) | (simp [*]; done)), H', ⟨by have := HK1.out; omega⟩, ⟨by repeat (first | (with_reducible first | exact HB.out | apply below_alloc | apply pw_below_drewN | apply below_drew1) | exact HB.out)⟩⟩
            · rw [if_neg c7] at H
              exact absurd H (by simp)
          · rw [if_neg c6] at H
            exact absurd H (by simp)
        · rw [if_neg c4] at H
          exact absurd H (by simp)
      · rw [if_neg c3] at H
        have c3b0 : decide (x5_1 < (l1.length : Int)) = false := decide_eq_false c3
        clear c3
        replace H := Option.bind_eq_some_iff.mp H
        obtain ⟨t181, A90, H⟩ := H
        replace H : (some t181) = some r := H
        have A9 := Aside0.mk A90
        clear A90
        obtain rfl := Option.some.inj H
        go_wp2_with (first | (go_at_call 73; (with_reducible refine (impl_areWithin.calls _ _ l1 0 (wrap64 (a0 - 1)) t181 _ ?side1 ?side2 A9.out).mono ?_); (case side1 => repeat (first | exact (Kd.C_below HR1.out HB.out) | (with_reducible refine Kd.C_alloc ?_ _) | (with_reducible refine Kd.C_drewN ?_ _) | (with_reducible refine Kd.C_drew ?_))); (case side2 => exact HC1.out); rintro e w10 ⟨rfl, hb⟩; have n0_ := Aside0.mk (below_step (by repeat (first | (with_reducible first | exact HB.out | apply below_alloc | apply pw_below_drewN | apply below_drew1) | exact HB.out)) hb); clear HB; have HB := n0_; clear n0_; (try clear hb); (try clear hb2); (try clear hk); (try clear hi)))
        repeat (go_quiet (first | (go_at_call 73; (with_reducible refine (impl_areWithin.calls _ _ l1 0 (wrap64 (a0 - 1)) t181 _ ?side1 ?side2 A9.out).mono ?_); (case side1 => repeat (first | exact (Kd.C_below HR1.out HB.out) | (with_reducible refine Kd.C_alloc ?_ _) | (with_reducible refine Kd.C_drewN ?_ _) | (with_reducible refine Kd.C_drew ?_))); (case side2 => exact HC1.out); rintro e w10 ⟨rfl, hb⟩; have n0_ := Aside0.mk (below_step (by repeat (first | (with_reducible first | exact HB.out | apply below_alloc | apply pw_below_drewN | apply below_drew1) | exact HB.out)) hb); clear HB; have HB := n0_; clear n0_; (try clear hb); (try clear hb2); (try clear hk); (try clear hi))); try go_wp2_with (first | (go_at_call 73; (with_reducible refine (impl_areWithin.calls _ _ l1 0 (wrap64 (a0 - 1)) t181 _ ?side1 ?side2 A9.out).mono ?_); (case side1 => repeat (first | exact (Kd.C_below HR1.out HB.out) | (with_reducible refine Kd.C_alloc ?_ _) | (with_reducible refine Kd.C_drewN ?_ _) | (with_reducible refine Kd.C_drew ?_))); (case side2 => exact HC1.out); rintro e w10 ⟨rfl, hb⟩; have n0_ := Aside0.mk (below_step (by repeat (first | (with_reducible first | exact HB.out | apply below_alloc | apply pw_below_drewN | apply below_drew1) | exact HB.out)) hb); clear HB; have HB := n0_; clear n0_; (try clear hb); (try clear hb2); (try clear hk); (try clear hi))))
        go_ret
        exact ⟨by first | rfl | (simp [errW_none, errW_some] <;> rfl) | (simp [*, errW_none, errW_some] <;> rfl), by repeat (first | (with_reducible first | exact HB.out | apply below_alloc | apply pw_below_drewN | apply below_drew1) | exact HB.out)⟩

-- NOT PRINTED: function 58 (impl_AreTests_1)

/-! ### impl_AreTests: function 44 -/
namespace Aux2
theorem w64 {x : Int} (h0 : -9223372036854775808 ≤ x) (h1 : x ≤ 9223372036854775807) : wrap64 x = x := by unfold wrap64; omega
theorem up64 {i n : Nat} (h : i < n) (hn : n ≤ 4611686018427387904) : wrap64 ((i : Int) + 1) = ((i + 1 : Nat) : Int) := by rw [w64 (by omega) (by omega)]; omega
theorem rd_lt {xs : List Int} {i : Nat} (h : i < xs.length) : rd xs (i : Int) = xs[i] := by unfold rd; simp [List.getD_eq_getElem?_getD, h]
/-- Is each one greater than the one before it? -/
def p_up : List Int → Bool
  | x :: y :: l => decide (x < y) && p_up (y :: l)
  | _ => true
end Aux2
/-- Is a list a strictly increasing one of so many wires? -/
def impl_AreTests.p_rising (a : Int) (l : List Int) : Bool := Aux2.p_up l && l.all fun y => decide (0 ≤ y) && decide (y ≤ wrap64 (a - 1))
theorem impl_AreTests.rising_l0 (a : Int) (l : List Int) (hn : l.length ≤ 4000000) : ∀ (d i k : Nat), i + d = l.length → 1 ≤ i → d < k → impl_isRising.l0 k a l (i : Int) = some (Aux2.p_up (l.drop (i - 1)) && l.all fun y => decide (0 ≤ y) && decide (y ≤ wrap64 (a - 1)))
  | 0, i, k, hi, h1, hk => by
    obtain ⟨k, rfl⟩ : ∃ q, k = q + 1 := ⟨k - 1, by omega⟩
    have e : Aux2.p_up (l.drop (i - 1)) = true := by
      have : (l.drop (i - 1)).length ≤ 1 := by rw [List.length_drop]; omega
      cases hq : l.drop (i - 1) with
      | nil => rfl
      | cons x t =>
        rw [hq] at this
        cases t with
        | nil => rfl
        | cons y t => simp at this
    simp only [impl_isRising.l0]
    rw [if_neg (by omega), e]
    unfold impl_areWithin.f impl_areWithin_1.f impl_areWithin_1.in_
    simp [List.not_any_eq_all_not]
  | d + 1, i, k, hi, h1, hk => by
    obtain ⟨k, rfl⟩ : ∃ q, k = q + 1 := ⟨k - 1, by omega⟩
    have ha : i < l.length := by omega
    have hb : i - 1 < l.length := by omega
    have ih := impl_AreTests.rising_l0 a l hn d (i + 1) k (by omega) (by omega) (by omega)
    have e1 : wrap64 ((i : Int) - 1) = ((i - 1 : Nat) : Int) := by rw [Aux2.w64 (by omega) (by omega)]; omega
    simp only [impl_isRising.l0]
    rw [if_pos (by omega), if_pos (by omega), e1, if_pos (by omega), if_pos (by omega), Aux2.rd_lt ha, Aux2.rd_lt hb, Aux2.up64 ha (by omega), ih]
    rw [List.drop_eq_getElem_cons hb, show i - 1 + 1 = i by omega, List.drop_eq_getElem_cons ha, show i + 1 - 1 = i by omega, List.drop_eq_getElem_cons ha]
    by_cases e : l[i] ≤ l[i - 1]
    · rw [if_pos e]
      simp [Aux2.p_up, show ¬ l[i - 1] < l[i] by omega]
    · rw [if_neg e]
      simp [Aux2.p_up, show l[i - 1] < l[i] by omega]
theorem impl_AreTests.rising_f (a : Int) (l : List Int) (hn : l.length ≤ 4000000) {k : Nat} (hk : l.length < k) : impl_isRising.f k a l = some (impl_AreTests.p_rising a l) := by
  unfold impl_isRising.f impl_AreTests.p_rising
  by_cases h : 1 ≤ l.length
  · have := impl_AreTests.rising_l0 a l hn (l.length - 1) 1 k (by omega) (by omega) (by omega)
    simpa using this
  · obtain ⟨k, rfl⟩ : ∃ q, k = q + 1 := ⟨k - 1, by omega⟩
    have e : l = [] := List.eq_nil_of_length_eq_zero (by omega)
    subst e
    simp only [impl_isRising.l0]
    rw [if_neg (by simp)]
    unfold impl_areWithin.f impl_areWithin_1.f
    simp [Aux2.p_up]
/-- The closure: is a row none of so many wires, or empty? -/
def impl_AreTests.p_bad (a : Int) (c : List Int) : Bool := decide (c.length = 0) || !impl_AreTests.p_rising a c
theorem impl_AreTests.clos (a : Int) (B : Nat) (A : Option Addr) (cc : Nat) (c : List Int) (w : World) (hB : w.cell? ⟨B, 0, none⟩ = some (.int .i64 a)) (hc : c.length ≤ 1048576) (hr : Kd.C (Kd.int .i64) w A c.length c) (hcc : c.length ≤ cc) :
    Calls Tryd.prog 58 #[.slice A c.length cc, .pointer (some ⟨B, 0, none⟩)] w fun e w' => e = .returned (.bool (impl_AreTests.p_bad a c)) ∧ Below w.heap.size w w' := by
  have h1 := Aside0.mk (impl_AreTests.rising_f a c (by omega) (show c.length < 2000000 by omega))
  have hp : Aside0 (impl_AreTests.p_bad a c = (decide (c.length = 0) || !impl_AreTests.p_rising a c)) := ⟨rfl⟩
  have HR := Aside0.mk hr
  have HC := Aside0.mk hcc
  clear hr hcc
  by_cases h0 : c.length = 0
  · have d1 : ((c.length : Int) == 0) = true := by rw [h0]; rfl
    have d2 : c = [] := List.eq_nil_of_length_eq_zero h0
    have hb : Aside0 (impl_AreTests.p_bad a c = true) := ⟨by rw [hp.out, decide_eq_true h0]; rfl⟩
    clear hp h1 h0
    subst d2
    go_enter Tryd.func58, Tryd.ntmps58
    go_wp2
    go_ret
    exact ⟨by rw [hb.out]; rfl, by repeat (first | exact Below.refl _ _ | apply below_alloc | apply pw_below_drewN)⟩
  · have d1 : ((c.length : Int) == 0) = false := beq_eq_false_iff_ne.mpr (by omega)
    have d2 : ¬ c = [] := fun e => h0 (by rw [e]; rfl)
    have hb : Aside0 (impl_AreTests.p_bad a c = !impl_AreTests.p_rising a c) := ⟨by rw [hp.out, decide_eq_false h0]; rfl⟩
    clear hp h0
    generalize impl_AreTests.p_rising a c = q at h1 hb
    generalize impl_AreTests.p_bad a c = q2 at hb ⊢
    go_enter Tryd.func58, Tryd.ntmps58
    go_wp2_with fail
    refine (impl_isRising.calls 2000000 a A cc c q _ HR.out HC.out h1.out).mono ?_
    rintro e w' ⟨rfl, hd⟩
    go_wp2
    go_ret
    exact ⟨by rw [hb.out]; rfl, by first | exact hd | exact Go.Proofs.YtbghdbpaihkcjaaDoorW.Rng.drawn_below hd⟩
theorem impl_AreTests.ret_int {k : IntKind} {a b : Int} (h : a = b) : Ending.returned (.int k a) = .returned (.int k b) := by rw [h]
open Go.Proofs.YtbghdbpaihkcjaaDoorW.Help in
set_option maxHeartbeats 2000000 in
theorem impl_AreTests.indexFunc (g : Nat) (lb : Array Value) (p : (List Int) → Bool) (A1 : Option Addr) (c1 : Nat) (l1 : List (List Int)) (w : World) (hr : Kd.C (Kd.slice 3 (Kd.int .i64)) w A1 l1.length l1)
    (eg : ∀ args w, (callFunc g args).run Tryd.prog w = .ok (.enter g args) w)
    (hp : ∀ (W : World) (A : Option Addr) (c : Nat) (x : List Int), x ∈ l1 → Below w.heap.size w W → Kd.C (Kd.int .i64) W A x.length x → x.length ≤ c → Calls Tryd.prog g (#[.slice A x.length c] ++ lb) W fun e W' => e = .returned (.bool (p x)) ∧ Below w.heap.size w W') :
    Calls Tryd.prog 72 #[.slice A1 l1.length c1, .func (.func g) #[] lb] w fun e w' => e = .returned (.int .i64 (fi p l1)) ∧ Below w.heap.size w w' := by
  have hlen : l1.length ≤ 9223372036854775807 := hr.2.1
  have HR := Aside0.mk hr
  have HP := Aside0.mk hp
  clear hr hp
  go_enter Tryd.func72, Tryd.ntmps72
  go_wp2
  go_loopg [5, 8] l1.length (fun gg _ s8 wr => ∃ x : Int, s8 = .int .i64 x ∧ Aside0 (0 ≤ x ∧ x ≤ (l1.length : Int) ∧ l1.length - x.toNat ≤ gg) ∧ Aside0 (Below w.heap.size w wr) ∧ Aside0 (∀ j, j < x.toNat → p (l1.getD j ([] : List Int)) = false))
  case atStart => exact ⟨0, rfl, ⟨by omega, by omega, by simp⟩, ⟨Below.refl _ w⟩, ⟨fun j hj => absurd hj (Nat.not_lt_zero _)⟩⟩
  case round =>
    obtain ⟨x, rfl, HX, BW, A⟩ := hrel
    by_cases hlt : x < (l1.length : Int)
    · have p0 : 0 ≤ x := HX.out.1
      obtain ⟨ad, A_, c_, e, hx0, hl0, hi0⟩ := at_L1 HR.out x p0 hlt
      subst e
      have hlt0 := World.block_lt_of_cell? w _ hx0
      replace hx0 := (BW.out.cell hlt0).trans hx0
      have hmem : rd_L1 l1 x ∈ l1 := by
        unfold rd_L1
        rw [List.getD_eq_getElem?_getD, List.getElem?_eq_getElem (show x.toNat < l1.length by omega)]
        exact List.getElem_mem _
      have hcall := HP.out wr A_ c_ (rd_L1 l1 x) hmem BW.out (Kd.C_below hi0 BW.out) hl0
      clear hmem hi0 hl0 hlt0
      have B : Aside0 (l1.getD x.toNat ([] : List Int) = rd_L1 l1 x) := ⟨rfl⟩
      have HL := Aside0.mk hlt
      have d1 : decide (x < (l1.length : Int)) = true := decide_eq_true hlt
      have d0 : decide (0 ≤ x) = true := decide_eq_true p0
      replace p0 := eq_true p0
      replace hlt := eq_true hlt
      clear HP HR
      generalize rd_L1 l1 x = y at hcall hx0 B
      cases hq : p y with
      | true =>
        rw [hq] at hcall
        have HQ := Aside0.mk hq
        clear hq
        go_wp2_with fail
        refine hcall.mono ?_
        rintro e w' ⟨rfl, hb'⟩
        go_wp2
        go_ret
        exact ⟨impl_AreTests.ret_int (by rw [fi_hit ([] : List Int) (k := x.toNat) (by have := HL.out; have := HX.out; omega) (by rw [B.out]; exact HQ.out) A.out, Int.toNat_of_nonneg HX.out.1]), hb'⟩
      | false =>
        rw [hq] at hcall
        have HQ := Aside0.mk hq
        clear hq
        go_wp2_with fail
        refine hcall.mono ?_
        rintro e w' ⟨rfl, hb'⟩
        go_wp2
        go_roundg (l1.length - (x.toNat + 1))
        case measure => have := HL.out; have := HX.out; omega
        case rel =>
          have h1 := HL.out
          have h2 := HX.out
          refine ⟨x + 1, by first | rfl | (rw [show wrap64 (x + 1) = x + 1 by unfold wrap64; omega]), ⟨by omega, by omega, by omega⟩, ⟨hb'⟩, ⟨fun j hj => ?_⟩⟩
          by_cases e : j = x.toNat
          · rw [e, B.out]; exact HQ.out
          · exact A.out j (by omega)
    · have HL := Aside0.mk hlt
      have d1 : decide (x < (l1.length : Int)) = false := decide_eq_false hlt
      clear hlt
      go_wp2
      go_ret
      exact ⟨impl_AreTests.ret_int (by rw [fi_miss ([] : List Int) (fun j hj => A.out j (by have := HL.out; have := HX.out; omega))]), BW.out⟩
open Go.Proofs.YtbghdbpaihkcjaaDoorW.Help in
theorem impl_AreTests.containsFunc (g : Nat) (lb : Array Value) (p : (List Int) → Bool) (A1 : Option Addr) (c1 : Nat) (l1 : List (List Int)) (w : World) (hr : Kd.C (Kd.slice 3 (Kd.int .i64)) w A1 l1.length l1)
    (eg : ∀ args w, (callFunc g args).run Tryd.prog w = .ok (.enter g args) w)
    (hp : ∀ (W : World) (A : Option Addr) (c : Nat) (x : List Int), x ∈ l1 → Below w.heap.size w W → Kd.C (Kd.int .i64) W A x.length x → x.length ≤ c → Calls Tryd.prog g (#[.slice A x.length c] ++ lb) W fun e W' => e = .returned (.bool (p x)) ∧ Below w.heap.size w W') :
    Calls Tryd.prog 57 #[.slice A1 l1.length c1, .func (.func g) #[] lb] w fun e w' => e = .returned (.bool (l1.any p)) ∧ Below w.heap.size w w' := by
  have hcon := impl_AreTests.indexFunc g lb p A1 c1 l1 w hr eg hp
  have e1 : Aside0 (decide (fi p l1 ≥ 0) = l1.any p) := ⟨fi_ge p l1⟩
  generalize fi p l1 = r at hcon e1
  clear hr eg hp
  go_enter Tryd.func57, Tryd.ntmps57
  go_wp2_with (go_at_call 72; refine hcon.mono ?_; rintro e w' ⟨rfl, hb'⟩)
  go_ret
  exact ⟨by rw [← e1.out]; rfl, hb'⟩
def impl_AreTests.p_all (a0 : Int) (l1 : List (List Int)) : Bool := decide (1 ≤ a0) && decide (a0 ≤ 10) && (decide (l1.length ≤ 12) && l1.all fun c => !impl_AreTests.p_bad a0 c)
def impl_AreTests.f (a0 : Int) (l1 : List (List Int)) : Option Bool := if ∀ c ∈ l1, c.length ≤ 1048576 then some (impl_AreTests.p_all a0 l1) else none
theorem impl_AreTests.calls (a0 : Int) (A1 : Option Addr) (c1 : Nat) (l1 : List (List Int)) (r : Bool) (w : World) (hr1 : Kd.C (Kd.slice 3 (Kd.int .i64)) w A1 l1.length l1) (hc1 : l1.length ≤ c1) (h : impl_AreTests.f a0 l1 = some r) :
    Calls Tryd.prog 44 #[.int .i64 a0, .slice A1 l1.length c1] w fun e w' => e = .returned (.bool r) ∧ Below w.heap.size w w' := by
  have hlen : l1.length ≤ 9223372036854775807 := hr1.2.1
  have eg : ∀ args w, (callFunc 58 args).run Tryd.prog w = .ok (.enter 58 args) w := Go.Proofs.enters_of Tryd.func58 (by kernel_rfl) rfl
  unfold impl_AreTests.f at h
  by_cases hall : ∀ c ∈ l1, c.length ≤ 1048576
  case neg => rw [if_neg hall] at h; cases h
  rw [if_pos hall] at h
  have hask : ∀ W, Calls Tryd.prog 56 #[.int .i64 a0] W fun e w' => e = .returned (.bool (decide (1 ≤ a0) && decide (a0 ≤ 10))) ∧ Drawn0 W w' := fun W => by
    refine (impl_areTested.calls a0 _ W ?_).mono (fun _ _ h => h)
    unfold impl_areTested.f impl_within.f
    by_cases h : 1 ≤ a0
    · rw [if_pos h]; simp [h]
    · rw [if_neg h]; simp [h]
  have hcon : ∀ (W : World) (B : Nat), Below w.heap.size w W → B < W.heap.size → W.cell? ⟨B, 0, none⟩ = some (.int .i64 a0) → Calls Tryd.prog 57 #[.slice A1 l1.length c1, .func (.func 58) #[] #[.pointer (some ⟨B, 0, none⟩)]] W fun e w' => e = .returned (.bool (l1.any (impl_AreTests.p_bad a0))) ∧ Below W.heap.size W w' := fun W B hb hlt hB => by
    refine impl_AreTests.containsFunc _ _ _ A1 c1 l1 W (Kd.C_below hr1 hb) eg (fun W' A c x hm hb' hr hc => ?_)
    have hB' : W'.cell? ⟨B, 0, none⟩ = some (.int .i64 a0) := (hb'.cell (p := ⟨B, 0, none⟩) hlt).trans hB
    exact (impl_AreTests.clos a0 B A c x W' hB' (hall x hm) hr hc).mono fun e w2 ⟨he, hb2⟩ => ⟨he, below_step hb' hb2⟩
  have hr : Aside0 (r = (decide (1 ≤ a0) && decide (a0 ≤ 10) && (decide (l1.length ≤ 12) && !l1.any (impl_AreTests.p_bad a0)))) := ⟨by
    rw [← Option.some.inj h]
    unfold impl_AreTests.p_all
    rw [List.not_any_eq_all_not]⟩
  clear h hr1 eg hall
  generalize l1.any (impl_AreTests.p_bad a0) = q at hcon hr
  generalize hk : (decide (1 ≤ a0) && decide (a0 ≤ 10)) = k at hask hr
  clear hk
  have HR := hr
  clear hr
  cases k with
  | false =>
    go_enter Tryd.func44, Tryd.ntmps44
    go_wp2_with (go_at_call 56; refine (hask _).mono ?_; rintro e w' ⟨rfl, ⟨nd, rfl⟩⟩)
    go_ret
    exact ⟨by rw [HR.out]; rfl, by repeat (first | exact Below.refl _ _ | apply below_alloc | apply pw_below_drewN)⟩
  | true =>
    by_cases h20 : l1.length ≤ 12
    · have d : decide ((l1.length : Int) ≤ 12) = true := decide_eq_true (by omega)
      have d2 : decide (l1.length ≤ 12) = true := decide_eq_true h20
      have HR2 : Aside0 (r = !q) := ⟨by rw [HR.out, d2]; rfl⟩
      clear HR h20
      go_enter Tryd.func44, Tryd.ntmps44
      go_wp2_with (first | (go_at_call 56; refine (hask _).mono ?_; rintro e w' ⟨rfl, ⟨nd, rfl⟩⟩) | (go_at_call 57; (refine (hcon _ _ (by repeat (first | exact Below.refl _ _ | apply below_alloc | apply pw_below_drewN)) (by simp) (by simp)).mono ?_); rintro e w' ⟨rfl, hb⟩))
      go_ret
      exact ⟨by rw [HR2.out]; rfl, below_step (by repeat (first | exact Below.refl _ _ | apply below_alloc | apply pw_below_drewN)) hb⟩
    · have d : decide ((l1.length : Int) ≤ 12) = false := decide_eq_false (by omega)
      have d2 : decide (l1.length ≤ 12) = false := decide_eq_false h20
      have HR2 : Aside0 (r = false) := ⟨by rw [HR.out, d2]; rfl⟩
      clear HR h20
      go_enter Tryd.func44, Tryd.ntmps44
      go_wp2_with (go_at_call 56; refine (hask _).mono ?_; rintro e w' ⟨rfl, ⟨nd, rfl⟩⟩)
      go_ret
      exact ⟨by rw [HR2.out]; rfl, by repeat (first | exact Below.refl _ _ | apply below_alloc | apply pw_below_drewN)⟩


end Go.Proofs.YtbghdbpaihkcjaaDoor.PFnExactSureWires
