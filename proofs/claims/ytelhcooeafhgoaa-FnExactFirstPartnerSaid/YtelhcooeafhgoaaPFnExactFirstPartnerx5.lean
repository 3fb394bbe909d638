-- Written by a program of this claim, over the kit's print: the functions that a law reaches, their plain forms and the walks.
import Derived.Test.YtelhcooeafhgoaaPFnExactFirstPartnerx0
import Derived.Test.YtelhcooeafhgoaaPFnExactFirstPartnerx4
namespace Go.Proofs.Ytelhcooeafhgoaa.PFnExactFirstPartner
open Go.RowKit Go.Proofs.YtelhcooeafhgoaaW.PrintWords Go.Proofs.YtelhcooeafhgoaaW.PrintLast Go.Proofs.YtelhcooeafhgoaaW.PrintMore
attribute [local go_sem] max2_int min2_int max_two min_two max_three min_three max_four min_four   -- for this text's walks alone
set_option linter.unusedVariables false
set_option linter.unusedSimpArgs false

/-! ### impl_groupsOf: function 89 -/
def impl_groupsOf.l0 : Nat → List (List Int) → List Int → Int → Int → Option ((List (List Int)))
  | 0, _, _, _, _ => none
  | k + 1, x3, x10, x11, x12 => if x12 < x11 then (if 0 ≤ x12 then (if x12 < (x10.length : Int) then (if 0 ≤ (rd x10 x12) then (if (rd x10 x12) < (x3.length : Int) then (if (rd_L1 x3 (rd x10 x12)).length < 17592186044416 then (impl_groupsOf.l0 k (x3.set ((rd x10 x12) : Int).toNat ((rd_L1 x3 (rd x10 x12)) ++ [x12])) x10 x11 (wrap64 (x12 + 1))) else (none)) else (none)) else (none)) else (none)) else (none)) else (some x3)
def impl_groupsOf.f (k : Nat) (l0 : List Int) : Option ((List (List Int))) := (slices_Max_int_int.f k l0).bind fun t231 => (if 0 ≤ (wrap64 (t231 + 1)) then (if (wrap64 (t231 + 1) : Int).toNat ≤ 11728124029610 then (impl_groupsOf.l0 k (List.replicate (wrap64 (t231 + 1) : Int).toNat []) l0 (l0.length : Int) 0) else (none)) else (none))
theorem impl_groupsOf.mono_l : ∀ k, (∀ y0 y1 y2 y3, LeO (impl_groupsOf.l0 k y0 y1 y2 y3) (impl_groupsOf.l0 (k + 1) y0 y1 y2 y3))
  | 0 => fun _ _ _ _ r h => by simp [impl_groupsOf.l0] at h
  | k + 1 => by
    have ih0 := impl_groupsOf.mono_l k
    · intro y0 y1 y2 y3
      unfold impl_groupsOf.l0
      repeat' first
      | (with_reducible exact ih0 _ _ _ _)
      | (with_reducible exact slices_Max_int_int.mono _ _)
      | (with_reducible exact LeO.refl _)
      | (with_reducible exact LeO.none _)
      | (with_reducible refine LeO.ite ?_ ?_)
      | (with_reducible refine LeO.bind ?_ (fun _ => ?_))
      | exact ih0 _ _ _ _
      | exact slices_Max_int_int.mono _ _
      | exact LeO.none _
      | refine LeO.ite ?_ ?_
      | refine LeO.bind ?_ (fun _ => ?_)
theorem impl_groupsOf.mono : ∀ a0 k, LeO (impl_groupsOf.f k a0) (impl_groupsOf.f (k + 1) a0) := by
  intro a0 k
  have ih0 := impl_groupsOf.mono_l k
  unfold impl_groupsOf.f
  repeat' first
      | (with_reducible exact ih0 _ _ _ _)
      | (with_reducible exact slices_Max_int_int.mono _ _)
      | (with_reducible exact LeO.refl _)
      | (with_reducible exact LeO.none _)
      | (with_reducible refine LeO.ite ?_ ?_)
      | (with_reducible refine LeO.bind ?_ (fun _ => ?_))
      | exact ih0 _ _ _ _
      | exact slices_Max_int_int.mono _ _
      | exact LeO.none _
      | refine LeO.ite ?_ ?_
      | refine LeO.bind ?_ (fun _ => ?_)
set_option maxHeartbeats 8000000 in
set_option maxRecDepth 100000 in
theorem impl_groupsOf.calls (k : Nat) (A0 : Option Addr) (c0 : Nat) (l0 : List Int) (r : List (List Int)) (w : World) (hr0 : Kd.C (Kd.int .i64) w A0 l0.length l0) (hc0 : l0.length ≤ c0) (h : impl_groupsOf.f k l0 = some r) :
    Calls Try.prog 89 #[.slice A0 l0.length c0] w fun e w' => ∃ v0_ : Value, e = .returned (v0_) ∧ Kd.S (Kd.slice 3 (Kd.int .i64)) 22 w' w.heap.size (fun _ => True) v0_ r ∧ Below w.heap.size w w' := by
  have HR0 := Aside0.mk hr0
  have HC0 := Aside0.mk hc0
  clear hr0 hc0
  have HB := Aside0.mk (Below.refl w.heap.size w)
  have H : ((slices_Max_int_int.f k l0).bind fun t231 => (if 0 ≤ (wrap64 (t231 + 1)) then (if (wrap64 (t231 + 1) : Int).toNat ≤ 11728124029610 then (impl_groupsOf.l0 k (List.replicate (wrap64 (t231 + 1) : Int).toNat []) l0 (l0.length : Int) 0) else (none)) else (none))) = some r := h
  clear h
  replace H := Option.bind_eq_some_iff.mp H
  obtain ⟨t231, A20, H⟩ := H
  replace H : (if 0 ≤ (wrap64 (t231 + 1)) then (if (wrap64 (t231 + 1) : Int).toNat ≤ 11728124029610 then (impl_groupsOf.l0 k (List.replicate (wrap64 (t231 + 1) : Int).toNat []) l0 (l0.length : Int) 0) else (none)) else (none)) = some r := H
  have A2 := Aside0.mk A20
  clear A20
  obtain ⟨ji3, hji3⟩ : ∃ j_ : Int, (wrap64 (t231 + 1)) = j_ := ⟨_, rfl⟩
  replace H : (if 0 ≤ (ji3) then (if (ji3 : Int).toNat ≤ 11728124029610 then (impl_groupsOf.l0 k (List.replicate (ji3 : Int).toNat []) l0 (l0.length : Int) 0) else (none)) else (none)) = some r := by first | (rw [hji3] at H; exact H) | (simp only [hji3] at H ⊢; exact H)
  (try rw [hji3] at A2)
  have hji3w : (IntKind.i64.wrap (t231 + 1)) = ji3 := (i64_w _).trans hji3
  by_cases c4 : 0 ≤ (ji3)
  · rw [if_pos c4] at H
    have c4b0 := eq_true c4
    have c4b1 : decide (0 ≤ (ji3)) = true := decide_eq_true c4
    clear c4
    by_cases c5 : (ji3 : Int).toNat ≤ 11728124029610
    · rw [if_pos c5] at H
      have c5b0 := eq_true c5
      have c5b1 : decide ((ji3 : Int).toNat ≤ 11728124029610) = true := decide_eq_true c5
      clear c5
      obtain ⟨y232, hy232⟩ : ∃ y_ : List (List Int), y_ = (List.replicate (ji3 : Int).toNat []) := ⟨_, rfl⟩
      replace H : (impl_groupsOf.l0 k y232 l0 (l0.length : Int) 0) = some r := by first | (rw [hy232]; with_reducible exact H) | (have H2_ := (Option.bind_some _ _).symm.trans H; rw [hy232]; with_reducible exact H2_) | (have H2_ := (Option.bind_some _ _).symm.trans H; with_reducible exact H2_) | with_reducible exact H | (rw [hy232]; exact H) | exact H
      have Ny232 := Aside0.mk hy232
      clear hy232
      have H' := Aside0.mk H
      clear H
      go_enter Try.func89, Try.ntmps89
      go_wp2_with (first | ((with_reducible refine gate_callee (f := 113) rfl ?_); refine goesL_ (some 7) rfl rfl Try.func113 (by kernel_rfl) rfl #[.slice A0 l0.length c0] rfl (by (try simp only [List.map_toArray, List.map_cons, List.map_nil]); first | done | rfl | (simp only [List.length_drop, List.length_take]; rfl) | (simp; done) | (refine congrArg Value.bool ?_; simp; done) | (refine congrArg (fun z_ => #[Value.bool z_]) ?_; simp; done)) ?_; (with_reducible refine (slices_Max_int_int.calls k _ _ l0 t231 _ ?side1 ?side2 A2.out).mono ?_); (case side1 => repeat (first | exact HR0.out | (with_reducible refine Kd.C_alloc ?_ _) | (with_reducible refine Kd.C_drewN ?_ _) | (with_reducible refine Kd.C_drew ?_))); (case side2 => exact HC0.out); rintro e w6 ⟨rfl, hb⟩; refine ⟨_, rfl, ?_⟩; have n0_ := Aside0.mk (below_step (by repeat (first | (with_reducible first | exact HB.out | apply below_alloc | apply pw_below_drewN | apply below_drew1) | exact HB.out)) hb); clear HB; have HB := n0_; clear n0_; (try clear hb); (try clear hb2); (try clear hk); (try clear hi)) | ((with_reducible refine gate_dst (N := 9) rfl ?_); refine Kd.S_make (Kd.slice 3 (Kd.int .i64)) _ 22 rfl (N := 9) rfl 59 _ _ rfl ji3 rfl rfl Try.underlying59 (.slice none 0 0) 24 info22 rfl (by decide) (by omega) [] (ok := fun _ => True) (okp := fun _ => True) ⟨_, rfl, Kd.R_nil _ _ _ _ _⟩ (fun _ hk => hk) trivial (of_decide_eq_true (by first | (with_reducible assumption) | assumption)) (Nat.le_trans (Nat.mul_le_mul_right _ (of_decide_eq_true (by first | (with_reducible assumption) | assumption) : ji3.toNat ≤ 11728124029610)) (by omega)) (Below.refl _ _) (Nat.le_refl _) ?_; intro v233 w7 ho8 hb hg_ hnew_; clear hg_ hnew_; (first | rw [← Ny232.out] at ho8 | (simp only [Int.reduceToNat] at ho8; rw [← Ny232.out] at ho8)); have n0_ := Aside0.mk (Kd.S_lower ho8 (below_size (by repeat (first | (with_reducible first | exact HB.out | apply below_alloc | apply pw_below_drewN | apply below_drew1) | exact HB.out)))); have n1_ := Aside0.mk (below_step (by repeat (first | (with_reducible first | exact HB.out | apply below_alloc | apply pw_below_drewN | apply below_drew1) | exact HB.out)) hb); clear HB; have HO234 := n0_; have HB := n1_; clear n0_ n1_; clear hb ho8))
      go_loopg [12] k (fun kq v12 w' => ∃ (x3_1 : List (List Int)) (x12_1 : Int), v12 = .int .i64 x12_1 ∧ Aside0 (impl_groupsOf.l0 kq x3_1 l0 (l0.length : Int) x12_1 = some r) ∧ Aside0 (kq ≤ k) ∧ Aside0 (Kd.S (Kd.slice 3 (Kd.int .i64)) 22 w' w.heap.size (fun _ => True) v233 x3_1) ∧ Aside0 (Below w.heap.size w w'))
      case atStart => exact ⟨(y232), (0), (by first | rfl | (simp; done) | (simp [*]; done)), H', ⟨Nat.le_refl _⟩, ⟨by (with_reducible repeat (first | apply Kd.S_alloc | apply Kd.S_drewN | apply Kd.S_drew)); exact HO234.out⟩, ⟨by repeat (first | (with_reducible first | exact HB.out | apply below_alloc | apply pw_below_drewN | apply below_drew1) | exact HB.out)⟩⟩
      case round =>
        clear H'
        try clear c1
        try clear p2
        try clear c4
        try clear c4b0
        try clear c4b1
        try clear c5
        try clear c5b0
        try clear c5b1
        try clear p6
        try clear c8
        obtain ⟨x3_1, x12_1, rfl, HA, HK1, HO_3, HB⟩ := hrel
        cases gk with
        | zero => exact absurd HA.out (by simp [impl_groupsOf.l0])
        | succ k1 =>
          have H := HA.out
          clear HA
          simp only [impl_groupsOf.l0] at H
          by_cases c9 : x12_1 < (l0.length : Int)
          · rw [if_pos c9] at H
            have c9b0 : decide (x12_1 < (l0.length : Int)) = true := decide_eq_true c9
            clear c9
            by_cases c10 : 0 ≤ x12_1
            · rw [if_pos c10] at H
              have c10b0 : decide (0 ≤ x12_1) = true := decide_eq_true c10
              clear c10
              by_cases c11 : x12_1 < (l0.length : Int)
              · rw [if_pos c11] at H
                have c11b0 : decide (x12_1 < (l0.length : Int)) = true := decide_eq_true c11
                clear c11
                by_cases c12 : 0 ≤ (rd l0 x12_1)
                · rw [if_pos c12] at H
                  have c12b0 : decide (0 ≤ (rd l0 x12_1)) = true := decide_eq_true c12
                  clear c12
                  by_cases c13 : (rd l0 x12_1) < (x3_1.length : Int)
                  · rw [if_pos c13] at H
                    have c13b0 : decide ((rd l0 x12_1) < (x3_1.length : Int)) = true := decide_eq_true c13
                    clear c13
                    by_cases c14 : (rd_L1 x3_1 (rd l0 x12_1)).length < 17592186044416
                    · rw [if_pos c14] at H
                      have LMc14 := Aside0.mk c14
                      clear c14
                      obtain ⟨y237, hy237⟩ : ∃ y_ : List Int, y_ = ((rd_L1 x3_1 (rd l0 x12_1)) ++ [x12_1]) := ⟨_, rfl⟩
                      replace H : (impl_groupsOf.l0 k1 (x3_1.set ((rd l0 x12_1) : Int).toNat y237) l0 (l0.length : Int) (wrap64 (x12_1 + 1))) = some r := by first | (rw [hy237]; with_reducible exact H) | (have H2_ := (Option.bind_some _ _).symm.trans H; rw [hy237]; with_reducible exact H2_) | (have H2_ := (Option.bind_some _ _).symm.trans H; with_reducible exact H2_) | with_reducible exact H | (rw [hy237]; exact H) | exact H
                      have Ny237 := Aside0.mk hy237
                      clear hy237
                      obtain ⟨y240, hy240⟩ : ∃ y_ : List (List Int), y_ = (x3_1.set ((rd l0 x12_1) : Int).toNat y237) := ⟨_, rfl⟩
                      replace H : (impl_groupsOf.l0 k1 y240 l0 (l0.length : Int) (wrap64 (x12_1 + 1))) = some r := by first | (rw [hy240]; with_reducible exact H) | (have H2_ := (Option.bind_some _ _).symm.trans H; rw [hy240]; with_reducible exact H2_) | (have H2_ := (Option.bind_some _ _).symm.trans H; with_reducible exact H2_) | with_reducible exact H | (rw [hy240]; exact H) | exact H
                      have Ny240 := Aside0.mk hy240
                      clear hy240
                      have H' := Aside0.mk H
                      clear H
                      have p235 : 0 ≤ (x12_1 : Int) := of_decide_eq_true (by first | (with_reducible assumption) | assumption)
                      have q235 : x12_1 < (l0.length : Int) := of_decide_eq_true (by first | (with_reducible assumption) | assumption)
                      obtain ⟨ad235, e235, hx235_0⟩ := Kd.at_int HR0.out x12_1 p235 q235
                      cases e235
                      replace hx235_0 := (HB.out.cell (World.block_lt_of_cell? w _ hx235_0)).trans hx235_0
                      replace p235 := eq_true p235
                      replace q235 := eq_true q235
                      obtain ⟨Ao16, co16, eo16⟩ := Kd.S_slice HO_3.out
                      subst eo16
                      have p236 : 0 ≤ ((rd l0 x12_1) : Int) := of_decide_eq_true (by first | (with_reducible assumption) | assumption)
                      have q236 : (rd l0 x12_1) < (x3_1.length : Int) := of_decide_eq_true (by first | (with_reducible assumption) | assumption)
                      obtain ⟨ad236, A236_0, c236_0, e236, hx236_0, hl236_0, hi236_0⟩ := at_L1 (Kd.S_reads' HO_3.out).2.2 (rd l0 x12_1) p236 q236
                      cases e236
                      obtain ⟨ce236, hce236, hMe236, hcc236⟩ := Kd.S_get HO_3.out [] (rd l0 x12_1) p236 (by first | exact q236 | exact of_decide_eq_true (by first | (with_reducible assumption) | assumption) | (have e_ := (Kd.S_reads' HO_3.out).1; omega))
                      obtain ⟨ve236_0, rfl, ge236_0⟩ := hMe236
                      have hv236_0 := hcc236 0 _ rfl
                      rw [Nat.add_zero, show ((Kd.slice 3 (Kd.int .i64))).sz = 1 from rfl, Nat.mul_one] at hv236_0
                      replace hv236_0 := Option.some.inj (hv236_0.symm.trans hx236_0)
                      rw [hv236_0] at ge236_0
                      have HL236_0 := Aside0.mk (show Kd.R (Kd.int .i64) 3 _ _ _ _ (rd_L1 x3_1 (rd l0 x12_1)) from ge236_0)
                      clear hv236_0 ge236_0
                      have HX236_0 := Aside0.mk hx236_0
                      clear hcc236 hce236
                      have HR236_0 := Aside0.mk hi236_0
                      have HC236_0 := Aside0.mk hl236_0
                      clear hi236_0 hl236_0
                      replace p236 := eq_true p236
                      replace q236 := eq_true q236
                      obtain ⟨go17, co17, eo17, gb17, gl17, cl17, HG17⟩ := Kd.S_form HO_3.out (by have h_ : ((rd l0 x12_1) : Int) < ((x3_1.length : Int) : Int) := of_decide_eq_true (by first | (with_reducible assumption) | assumption); have h2_ : 0 ≤ ((rd l0 x12_1) : Int) := (of_decide_eq_true (by first | (with_reducible assumption) | assumption)); omega)
                      (first | cases eo17 | (injection eo17 with ea_ en_ ec_; (first | subst ea_ | (injection ea_ with ea_; subst ea_)); subst ec_; clear en_))
                      have GB17 := Aside0.mk gb17
                      have GG17 := Aside0.mk HG17
                      clear gb17 gl17 HG17
                      (first | simp only [add_plain] at hx236_0 | skip)
                      obtain ⟨oki17, ce17, hcl17, hM17, hcc17, _, _, hH17⟩ := Kd.S_elem HO_3.out [] ((rd l0 x12_1) : Int) (of_decide_eq_true (by first | (with_reducible assumption) | assumption)) (by have h_ : ((rd l0 x12_1) : Int) < ((x3_1.length : Int) : Int) := of_decide_eq_true (by first | (with_reducible assumption) | assumption); first | exact h_ | (have e_ := (Kd.S_reads' HO_3.out).1; omega) | simpa using h_)
                      obtain ⟨ve17_0, rfl, ge17_0⟩ := hM17
                      have hv17 := hcc17 0 _ rfl
                      have hX17 := HX236_0.out
                      (try simp only [add_plain] at hX17)
                      (try simp only [Nat.add_zero] at hv17)
                      (try rw [show ((Kd.slice 3 (Kd.int .i64))).sz = 1 from rfl, Nat.mul_one] at hv17)
                      replace hv17 := Option.some.inj (hv17.symm.trans hX17)
                      subst hv17
                      clear hX17 hcc17 hcl17
                      have UU17 := Aside0.mk (show Kd.R (Kd.int .i64) 3 _ w.heap.size oki17 (.slice A236_0 (rd_L1 x3_1 (rd l0 x12_1)).length c236_0) (rd_L1 x3_1 (rd l0 x12_1)) from ge17_0)
                      have HH17 := Aside0.mk hH17
                      have HN17 := Aside0.mk (Kd.S_reads' HO_3.out).1
                      clear hH17 ge17_0
                      go_wp2_with (first | ((with_reducible refine gate_builtin (b := .append) (xs := #[.tmp 22, .tmp 24]) rfl ?_); at_builtin; refine Kd.R_append (Kd.int .i64) (w0 := w) w.heap.size rfl (.tmp 22) (.tmp 24) 22 3 (.int .i64 0) 8 rfl Try.underlying22 info3 rfl (by decide) (by omega) (.slice A236_0 (rd_L1 x3_1 (rd l0 x12_1)).length c236_0) (rd_L1 x3_1 (rd l0 x12_1)) x12_1 [.int .i64 x12_1] (fun k_ => oki17 k_ ∨ ((fun _ => True)) k_ ∧ wr.heap.size ≤ k_) (fun _ => False) rfl rfl ?aP (fun _ hk => hk.elim) ?aF ?aO ?aB ?aS ?aL ?_; (case aP => exact rfl); (case aB => exact (by repeat (first | (with_reducible first | exact HB.out | apply below_alloc | apply pw_below_drewN | apply below_drew1) | exact HB.out))); (case aF => exact (fun k_ hk => .inr ⟨trivial, hk⟩)); (case aO => exact (by (with_reducible repeat (first | apply Kd.R_alloc | apply Kd.R_drewN | apply Kd.R_drew)); exact Kd.R_mono UU17.out (fun _ hk => .inl hk))); (case aS => exact (below_size (by repeat (first | (with_reducible first | exact HB.out | apply below_alloc | apply pw_below_drewN | apply below_drew1) | exact HB.out)))); (case aL => have := LMc14.out; omega); intro v238 w18 ho hb hg hat; rw [← Ny237.out] at ho; have n0_ := Aside0.mk (hb); have n1_ := Aside0.mk (Kd.H_grown (Kd.H_widen (by repeat (first | exact HH17.out | refine Kd.H_alloc ?_ _ | refine Kd.H_drewN ?_ _ | refine Kd.H_drew ?_))) hg (fun k_ e_ => .inl (UU17.out.1 k_ e_))); have n2_ := Aside0.mk (ho); clear HB; clear HH17; clear HO_3; clear UU17; clear HL236_0; have HB := n0_; have HH17 := n1_; have HO239 := n2_; clear n0_ n1_ n2_; clear ho hb hg hat; have p15 : 0 ≤ ((rd l0 x12_1) : Int) := of_decide_eq_true (by first | (with_reducible assumption) | assumption); have q15 : ((rd l0 x12_1) : Int) < ((x3_1.length : Int) : Int) := of_decide_eq_true (by first | (with_reducible assumption) | assumption); replace p15 := eq_true p15; replace q15 := eq_true q15; obtain ⟨Ao21, co21, eo21⟩ := Kd.R_slice HO239.out; subst eo21; obtain ⟨_, _, hraw19, _, _, hcc19, _⟩ := Kd.H_raw HH17.out (of_decide_eq_true (by first | (with_reducible assumption) | assumption)) (by have h_ : ((rd l0 x12_1) : Int) < ((x3_1.length : Int) : Int) := of_decide_eq_true (by first | (with_reducible assumption) | assumption); first | exact h_ | (have e_ := (HN17.out); omega) | simpa using h_); obtain ⟨_, hfr19⟩ := Kd.H_at HH17.out (of_decide_eq_true (by first | (with_reducible assumption) | assumption)) (by have h_ : ((rd l0 x12_1) : Int) < ((x3_1.length : Int) : Int) := of_decide_eq_true (by first | (with_reducible assumption) | assumption); first | exact h_ | (have e_ := (HN17.out); omega) | simpa using h_); have hx19_0 := hcc19 0 _ rfl; have hf19_0 := hfr19 0; (try simp only [Nat.add_zero] at hx19_0 hf19_0); (try rw [show ((Kd.slice 3 (Kd.int .i64))).sz = 1 from rfl, Nat.mul_one] at hx19_0); (try rw [show ((Kd.slice 3 (Kd.int .i64))).sz = 1 from rfl, Nat.mul_one] at hf19_0); have HP19 := Kd.S_seg0 HH17.out (of_decide_eq_true (by first | (with_reducible assumption) | assumption)) (by have h_ : ((rd l0 x12_1) : Int) < ((x3_1.length : Int) : Int) := of_decide_eq_true (by first | (with_reducible assumption) | assumption); first | exact h_ | (have e_ := (HN17.out); omega) | simpa using h_) (seg := [.slice Ao21 y237.length co21]) (j := 0) (show 1 ≤ 1 from by decide) (x' := y237) (Kd.M_row HO239.out) (fun _ hk => hk); (try simp only [show ((Kd.slice 3 (Kd.int .i64))).sz = 1 from rfl, Nat.mul_one, Nat.add_zero] at HP19); clear hcc19 hfr19) | ((with_reducible refine gate_store (t := 22) (p := 26) rfl ?_); refine store_event (t := 22) (p := 26) (v := ?vo_w20) (w1 := (w18.setCell ⟨go17, ((rd l0 x12_1) : Int).toNat, none⟩ (.slice Ao21 y237.length co21))) ?hg ?ho ?hn ?hr ?_; (case ho => rfl); (case hg => rfl); (case hn => rfl); (case hr => first | (go_simp; done) | (go_simp; rfl)); intro w20 hw; have hg : w18.grownBy w20 (some go17) := (by rw [hw]; exact HP19.2); have hp_ : Kd.S (Kd.slice 3 (Kd.int .i64)) 22 w20 w.heap.size (fun _ => True) (.slice (some ⟨go17, 0, none⟩) x3_1.length co16) y240 := (by rw [hw, Ny240.out]; exact HP19.1); clear HP19; have n0_ := Aside0.mk ((by rw [hw]; exact below_set HB.out GB17.out : Below w.heap.size w w20)); have n1_ := Aside0.mk (hp_); clear HB; clear HO239; clear HH17; have HB := n0_; have HO_3 := n1_; clear n0_ n1_; clear hg hw hp_ hraw19))
                      go_roundg k1
                      case measure => have := HK1.out; omega
                      case rel => exact ⟨(y240), (wrap64 (x12_1 + 1)), (by first | rfl | (simp; done) | (simp [*]; done)), H', ⟨by have := HK1.out; omega⟩, ⟨by (with_reducible repeat (first | apply Kd.S_alloc | apply Kd.S_drewN | apply Kd.S_drew)); exact HO_3.out⟩, ⟨by repeat (first | (with_reducible first | exact HB.out | apply below_alloc | apply pw_below_drewN | apply below_drew1) | exact HB.out)⟩⟩
                    · rw [if_neg c14] at H
                      exact absurd H (by simp)
                  · rw [if_neg c13] at H
                    exact absurd H (by simp)
                · rw [if_neg c12] at H
                  exact absurd H (by simp)
              · rw [if_neg c11] at H
                exact absurd H (by simp)
            · rw [if_neg c10] at H
              exact absurd H (by simp)
          · rw [if_neg c9] at H
            have c9b0 : decide (x12_1 < (l0.length : Int)) = false := decide_eq_false c9
            clear c9
            obtain rfl := Option.some.inj H
            go_wp2
            go_ret
            exact ⟨_, by first | rfl | (simp [errW_none, errW_some] <;> rfl) | (simp only [← hji3]; first | rfl | (simp [errW_none, errW_some] <;> rfl)) | (simp [*, errW_none, errW_some] <;> rfl), by (with_reducible repeat (first | apply Kd.S_alloc | apply Kd.S_drewN | apply Kd.S_drew)); exact HO_3.out, by repeat (first | (with_reducible first | exact HB.out | apply below_alloc | apply pw_below_drewN | apply below_drew1) | exact HB.out)⟩
    · rw [if_neg c5] at H
      exact absurd H (by simp)
  · rw [if_neg c4] at H
    exact absurd H (by simp)

/-! ### impl_sizeOfEach: function 92 -/
mutual
def impl_sizeOfEach.l0 : Nat → List Int → List (List Int) → Int → Int → Option (List Int)
  | 0, _, _, _, _ => none
  | k + 1, x3, x12, x13, x14 => if x14 < x13 then (if 0 ≤ x14 then (if x14 < (x12.length : Int) then (impl_sizeOfEach.l1 k x3 (rd_L1 x12 x14) x12 x13 x14 (rd_L1 x12 x14) ((rd_L1 x12 x14).length : Int) 0) else (none)) else (none)) else (some x3)
def impl_sizeOfEach.l1 : Nat → List Int → List Int → List (List Int) → Int → Int → List Int → Int → Int → Option (List Int)
  | 0, _, _, _, _, _, _, _, _ => none
  | k + 1, x3, x5, x12, x13, x14, x18, x19, x20 => if x20 < x19 then (if 0 ≤ x20 then (if x20 < (x18.length : Int) then (if 0 ≤ (rd x18 x20) then (if (rd x18 x20) < (x3.length : Int) then (impl_sizeOfEach.l1 k (x3.set ((rd x18 x20) : Int).toNat (x5.length : Int)) x5 x12 x13 x14 x18 x19 (wrap64 (x20 + 1))) else (none)) else (none)) else (none)) else (none)) else (impl_sizeOfEach.l0 k x3 x12 x13 (wrap64 (x14 + 1)))
end
def impl_sizeOfEach.f (k : Nat) (l0 : List Int) : Option (List Int) := if 0 ≤ (l0.length : Int) then (if ((l0.length : Int) : Int).toNat ≤ 35184372088832 then ((impl_groupsOf.f k l0).bind fun t244 => (impl_sizeOfEach.l0 k (List.replicate ((l0.length : Int) : Int).toNat 0) t244 (t244.length : Int) 0)) else (none)) else (none)
theorem impl_sizeOfEach.mono_l : ∀ k, (∀ y0 y1 y2 y3, LeO (impl_sizeOfEach.l0 k y0 y1 y2 y3) (impl_sizeOfEach.l0 (k + 1) y0 y1 y2 y3)) ∧ (∀ y0 y1 y2 y3 y4 y5 y6 y7, LeO (impl_sizeOfEach.l1 k y0 y1 y2 y3 y4 y5 y6 y7) (impl_sizeOfEach.l1 (k + 1) y0 y1 y2 y3 y4 y5 y6 y7))
  | 0 => ⟨fun _ _ _ _ r h => by simp [impl_sizeOfEach.l0] at h, fun _ _ _ _ _ _ _ _ r h => by simp [impl_sizeOfEach.l1] at h⟩
  | k + 1 => by
    obtain ⟨ih0, ih1⟩ := impl_sizeOfEach.mono_l k
    refine ⟨?_, ?_⟩
    · intro y0 y1 y2 y3
      unfold impl_sizeOfEach.l0
      repeat' first
      | (with_reducible exact ih0 _ _ _ _)
      | (with_reducible exact ih1 _ _ _ _ _ _ _ _)
      | (with_reducible exact impl_groupsOf.mono _ _)
      | (with_reducible exact LeO.refl _)
      | (with_reducible exact LeO.none _)
      | (with_reducible refine LeO.ite ?_ ?_)
      | (with_reducible refine LeO.bind ?_ (fun _ => ?_))
      | exact ih0 _ _ _ _
      | exact ih1 _ _ _ _ _ _ _ _
      | exact impl_groupsOf.mono _ _
      | exact LeO.none _
      | refine LeO.ite ?_ ?_
      | refine LeO.bind ?_ (fun _ => ?_)
    · intro y0 y1 y2 y3 y4 y5 y6 y7
      unfold impl_sizeOfEach.l1
      repeat' first
      | (with_reducible exact ih0 _ _ _ _)
      | (with_reducible exact ih1 _ _ _ _ _ _ _ _)
      | (with_reducible exact impl_groupsOf.mono _ _)
      | (with_reducible exact LeO.refl _)
      | (with_reducible exact LeO.none _)
      | (with_reducible refine LeO.ite ?_ ?_)
      | (with_reducible refine LeO.bind ?_ (fun _ => ?_))
      | exact ih0 _ _ _ _
      | exact ih1 _ _ _ _ _ _ _ _
      | exact impl_groupsOf.mono _ _
      | exact LeO.none _
      | refine LeO.ite ?_ ?_
      | refine LeO.bind ?_ (fun _ => ?_)
theorem impl_sizeOfEach.mono : ∀ a0 k, LeO (impl_sizeOfEach.f k a0) (impl_sizeOfEach.f (k + 1) a0) := by
  intro a0 k
  obtain ⟨ih0, ih1⟩ := impl_sizeOfEach.mono_l k
  unfold impl_sizeOfEach.f
  repeat' first
      | (with_reducible exact ih0 _ _ _ _)
      | (with_reducible exact ih1 _ _ _ _ _ _ _ _)
      | (with_reducible exact impl_groupsOf.mono _ _)
      | (with_reducible exact LeO.refl _)
      | (with_reducible exact LeO.none _)
      | (with_reducible refine LeO.ite ?_ ?_)
      | (with_reducible refine LeO.bind ?_ (fun _ => ?_))
      | exact ih0 _ _ _ _
      | exact ih1 _ _ _ _ _ _ _ _
      | exact impl_groupsOf.mono _ _
      | exact LeO.none _
      | refine LeO.ite ?_ ?_
      | refine LeO.bind ?_ (fun _ => ?_)
set_option maxHeartbeats 8000000 in
set_option maxRecDepth 100000 in
theorem impl_sizeOfEach.calls (k : Nat) (A0 : Option Addr) (c0 : Nat) (l0 : List Int) (r : List Int) (w : World) (hr0 : Kd.C (Kd.int .i64) w A0 l0.length l0) (hc0 : l0.length ≤ c0) (h : impl_sizeOfEach.f k l0 = some r) :
    Calls Try.prog 92 #[.slice A0 l0.length c0] w fun e w' => ∃ v0_ : Value, e = .returned (v0_) ∧ Kd.R (Kd.int .i64) 3 w' w.heap.size (fun _ => True) v0_ r ∧ Below w.heap.size w w' := by
  have HR0 := Aside0.mk hr0
  have HC0 := Aside0.mk hc0
  clear hr0 hc0
  have HB := Aside0.mk (Below.refl w.heap.size w)
  have H : (if 0 ≤ (l0.length : Int) then (if ((l0.length : Int) : Int).toNat ≤ 35184372088832 then ((impl_groupsOf.f k l0).bind fun t244 => (impl_sizeOfEach.l0 k (List.replicate ((l0.length : Int) : Int).toNat 0) t244 (t244.length : Int) 0)) else (none)) else (none)) = some r := h
  clear h
  by_cases c2 : 0 ≤ (l0.length : Int)
  · rw [if_pos c2] at H
    have c2b0 := eq_true c2
    have c2b1 : decide (0 ≤ (l0.length : Int)) = true := decide_eq_true c2
    clear c2
    by_cases c3 : ((l0.length : Int) : Int).toNat ≤ 35184372088832
    · rw [if_pos c3] at H
      have c3b0 := eq_true c3
      have c3b1 : decide (((l0.length : Int) : Int).toNat ≤ 35184372088832) = true := decide_eq_true c3
      clear c3
      obtain ⟨y241, hy241⟩ : ∃ y_ : List Int, y_ = (List.replicate ((l0.length : Int) : Int).toNat 0) := ⟨_, rfl⟩
      replace H : ((impl_groupsOf.f k l0).bind fun t244 => (impl_sizeOfEach.l0 k y241 t244 (t244.length : Int) 0)) = some r := by first | (rw [hy241]; with_reducible exact H) | (have H2_ := (Option.bind_some _ _).symm.trans H; rw [hy241]; with_reducible exact H2_) | (have H2_ := (Option.bind_some _ _).symm.trans H; with_reducible exact H2_) | with_reducible exact H | (rw [hy241]; exact H) | exact H
      have Ny241 := Aside0.mk hy241
      clear hy241
      replace H := Option.bind_eq_some_iff.mp H
      obtain ⟨t244, A40, H⟩ := H
      replace H : (impl_sizeOfEach.l0 k y241 t244 (t244.length : Int) 0) = some r := H
      have A4 := Aside0.mk A40
      clear A40
      have H' := Aside0.mk H
      clear H
      go_enter Try.func92, Try.ntmps92
      go_wp2_with (first | ((with_reducible refine gate_dst (N := 10) rfl ?_); refine Kd.R_make (Kd.int .i64) _ 3 rfl (N := 10) rfl 22 _ _ rfl (l0.length : Int) rfl rfl Try.underlying22 (.int .i64 0) 8 info3 rfl (by decide) (by omega) 0 (ok := fun _ => True) (okp := fun _ => True) rfl (fun _ hk => hk) trivial (of_decide_eq_true (by first | (with_reducible assumption) | assumption)) (Nat.le_trans (Nat.mul_le_mul_right _ (of_decide_eq_true (by first | (with_reducible assumption) | assumption) : (l0.length : Int).toNat ≤ 35184372088832)) (by omega)) (Below.refl _ _) (Nat.le_refl _) ?_; intro v242 w5 ho6 hb hg_ hnew_; clear hg_ hnew_; (first | rw [← Ny241.out] at ho6 | (simp only [Int.reduceToNat] at ho6; rw [← Ny241.out] at ho6)); have n0_ := Aside0.mk (Kd.R_lower ho6 (below_size (by repeat (first | (with_reducible first | exact HB.out | apply below_alloc | apply pw_below_drewN | apply below_drew1) | exact HB.out)))); have n1_ := Aside0.mk (below_step (by repeat (first | (with_reducible first | exact HB.out | apply below_alloc | apply pw_below_drewN | apply below_drew1) | exact HB.out)) hb); clear HB; have HO243 := n0_; have HB := n1_; clear n0_ n1_; clear hb ho6) | ((with_reducible refine gate_callee (f := 89) rfl ?_); refine goesL_ (some 12) rfl rfl Try.func89 (by kernel_rfl) rfl #[.slice A0 l0.length c0] rfl (by (try simp only [List.map_toArray, List.map_cons, List.map_nil]); first | done | rfl | (simp only [List.length_drop, List.length_take]; rfl) | (simp; done) | (refine congrArg Value.bool ?_; simp; done) | (refine congrArg (fun z_ => #[Value.bool z_]) ?_; simp; done)) ?_; (with_reducible refine (impl_groupsOf.calls k _ _ l0 t244 _ ?side1 ?side2 A4.out).mono ?_); (case side1 => repeat (first | exact (Kd.C_below HR0.out HB.out) | (with_reducible refine Kd.C_alloc ?_ _) | (with_reducible refine Kd.C_drewN ?_ _) | (with_reducible refine Kd.C_drew ?_))); (case side2 => exact HC0.out); rintro e w7 ⟨v245, rfl, ho0, hb⟩; refine ⟨_, rfl, ?_⟩; have n0_ := Aside0.mk (Kd.R_below (by (with_reducible repeat (first | apply Kd.R_alloc | apply Kd.R_drewN | apply Kd.R_drew)); exact HO243.out) hb); have n1_ := Aside0.mk (Kd.S_lower (Kd.S_new' ho0 (Kd.R_lt (by (with_reducible repeat (first | apply Kd.R_alloc | apply Kd.R_drewN | apply Kd.R_drew)); exact HO243.out))) (below_size (by repeat (first | (with_reducible first | exact HB.out | apply below_alloc | apply pw_below_drewN | apply below_drew1) | exact HB.out)))); have n2_ := Aside0.mk (below_step (by repeat (first | (with_reducible first | exact HB.out | apply below_alloc | apply pw_below_drewN | apply below_drew1) | exact HB.out)) hb); clear HO243; clear HB; have HO243 := n0_; have HO246 := n1_; have HB := n2_; clear n0_ n1_ n2_; (try clear hb); (try clear hb2); (try clear hk); (try clear hi); (try clear ho0); obtain ⟨Ao8, co8, eo8⟩ := Kd.S_slice HO246.out; subst eo8))
      go_loopg [14] k (fun kq v14 w' => ∃ (x3_1 : List Int) (x14_1 : Int), v14 = .int .i64 x14_1 ∧ Aside0 (impl_sizeOfEach.l0 kq x3_1 t244 (t244.length : Int) x14_1 = some r) ∧ Aside0 (kq ≤ k) ∧ Aside0 (Kd.R (Kd.int .i64) 3 w' w.heap.size (fun _ => True) v242 x3_1) ∧ Aside0 (Kd.S (Kd.slice 3 (Kd.int .i64)) 22 w' w.heap.size (fun k_ => some k_ ≠ (v242 : Value).ownBlock) (.slice Ao8 t244.length co8) t244) ∧ Aside0 (Below w.heap.size w w'))
      case atStart => exact ⟨(y241), (0), (by first | rfl | (simp; done) | (simp [*]; done)), H', ⟨Nat.le_refl _⟩, ⟨by (with_reducible repeat (first | apply Kd.R_alloc | apply Kd.R_drewN | apply Kd.R_drew)); exact HO243.out⟩, ⟨by (with_reducible repeat (first | apply Kd.S_alloc | apply Kd.S_drewN | apply Kd.S_drew)); exact Kd.S_mono HO246.out (fun _ hk => hk.2)⟩, ⟨by repeat (first | (with_reducible first | exact HB.out | apply below_alloc | apply pw_below_drewN | apply below_drew1) | exact HB.out)⟩⟩
      case round =>
        clear H'
        try clear c2
        try clear c2b0
        try clear c2b1
        try clear p2
        try clear c3
        try clear c3b0
        try clear c3b1
        try clear c8
        obtain ⟨x3_1, x14_1, rfl, HA, HK1, HO_3, HO_12, HB⟩ := hrel
        cases gk with
        | zero => exact absurd HA.out (by simp [impl_sizeOfEach.l0])
        | succ k1 =>
          have H := HA.out
          clear HA
          simp only [impl_sizeOfEach.l0] at H
          by_cases c9 : x14_1 < (t244.length : Int)
          · rw [if_pos c9] at H
            have c9b0 : decide (x14_1 < (t244.length : Int)) = true := decide_eq_true c9
            clear c9
            by_cases c10 : 0 ≤ x14_1
            · rw [if_pos c10] at H
              have c10b0 : decide (0 ≤ x14_1) = true := decide_eq_true c10
              clear c10
              by_cases c11 : x14_1 < (t244.length : Int)
              · rw [if_pos c11] at H
                have c11b0 : decide (x14_1 < (t244.length : Int)) = true := decide_eq_true c11
                clear c11
                have H' := Aside0.mk H
                clear H
                have p247 : 0 ≤ (x14_1 : Int) := of_decide_eq_true (by first | (with_reducible assumption) | assumption)
                have q247 : x14_1 < (t244.length : Int) := of_decide_eq_true (by first | (with_reducible assumption) | assumption)
                obtain ⟨ad247, A247_0, c247_0, e247, hx247_0, hl247_0, hi247_0⟩ := at_L1 (Kd.S_reads' HO_12.out).2.2 x14_1 p247 q247
                cases e247
                obtain ⟨ce247, hce247, hMe247, hcc247⟩ := Kd.S_get HO_12.out [] x14_1 p247 (by first | exact q247 | exact of_decide_eq_true (by first | (with_reducible assumption) | assumption) | (have e_ := (Kd.S_reads' HO_12.out).1; omega))
                obtain ⟨ve247_0, rfl, ge247_0⟩ := hMe247
                have hv247_0 := hcc247 0 _ rfl
                rw [Nat.add_zero, show ((Kd.slice 3 (Kd.int .i64))).sz = 1 from rfl, Nat.mul_one] at hv247_0
                replace hv247_0 := Option.some.inj (hv247_0.symm.trans hx247_0)
                rw [hv247_0] at ge247_0
                have HL247_0 := Aside0.mk (show Kd.R (Kd.int .i64) 3 _ _ _ _ (rd_L1 t244 x14_1) from ge247_0)
                clear hv247_0 ge247_0
                clear hcc247 hce247
                have HR247_0 := Aside0.mk hi247_0
                have HC247_0 := Aside0.mk hl247_0
                clear hi247_0 hl247_0
                replace p247 := eq_true p247
                replace q247 := eq_true q247
                go_wp2
                go_loopg [20] k1 (fun kq v20 w' => ∃ (x3_2 : List Int) (x20_2 : Int), v20 = .int .i64 x20_2 ∧ Aside0 (impl_sizeOfEach.l1 kq x3_2 (rd_L1 t244 x14_1) t244 (t244.length : Int) x14_1 (rd_L1 t244 x14_1) ((rd_L1 t244 x14_1).length : Int) x20_2 = some r) ∧ Aside0 (kq ≤ k1) ∧ Aside0 (Kd.R (Kd.int .i64) 3 w' w.heap.size (fun _ => True) v242 x3_2) ∧ Aside0 (Kd.S (Kd.slice 3 (Kd.int .i64)) 22 w' w.heap.size (fun k_ => some k_ ≠ (v242 : Value).ownBlock) (.slice (some ad247) t244.length co8) t244) ∧ Aside0 (Kd.R (Kd.int .i64) 3 w' w.heap.size (fun k_ => some k_ ≠ (v242 : Value).ownBlock) (.slice A247_0 (rd_L1 t244 x14_1).length c247_0) (rd_L1 t244 x14_1)) ∧ Aside0 (Below w.heap.size w w'))
                case atStart => exact ⟨(x3_1), (0), (by first | rfl | (simp; done) | (simp [*]; done)), H', ⟨Nat.le_refl _⟩, ⟨by (with_reducible repeat (first | apply Kd.R_alloc | apply Kd.R_drewN | apply Kd.R_drew)); exact HO_3.out⟩, ⟨by (with_reducible repeat (first | apply Kd.S_alloc | apply Kd.S_drewN | apply Kd.S_drew)); exact HO_12.out⟩, ⟨Kd.R_mono HL247_0.out (fun _ hk => by first | exact hk.1.1 | exact hk.1.2 | exact hk.1 | exact hk.2)⟩, ⟨by repeat (first | (with_reducible first | exact HB.out | apply below_alloc | apply pw_below_drewN | apply below_drew1) | exact HB.out)⟩⟩
                case round =>
                  clear H'
                  try clear c1
                  try clear c2
                  try clear c2b0
                  try clear c2b1
                  try clear p2
                  try clear q2
                  try clear hx2
                  try clear c3
                  try clear c3b0
                  try clear c3b1
                  try clear c8
                  try clear c9
                  try clear c9b0
                  try clear c10
                  try clear c10b0
                  try clear c11
                  try clear c11b0
                  try clear hx247_0
                  try clear p2
                  try clear p247
                  try clear q247
                  obtain ⟨x3_2, x20_2, rfl, HA, HK2, HO_3, HO_12, HE247, HB⟩ := hrel
                  cases gk with
                  | zero => exact absurd HA.out (by simp [impl_sizeOfEach.l1])
                  | succ k2 =>
                    have H := HA.out
                    clear HA
                    simp only [impl_sizeOfEach.l1] at H
                    by_cases c12 : x20_2 < ((rd_L1 t244 x14_1).length : Int)
                    · rw [if_pos c12] at H
                      have c12b0 : decide (x20_2 < ((rd_L1 t244 x14_1).length : Int)) = true := decide_eq_true c12
                      clear c12
                      by_cases c13 : 0 ≤ x20_2
                      · rw [if_pos c13] at H
                        have c13b0 : decide (0 ≤ x20_2) = true := decide_eq_true c13
                        clear c13
                        by_cases c14 : x20_2 < ((rd_L1 t244 x14_1).length : Int)
                        · rw [if_pos c14] at H
                          have c14b0 : decide (x20_2 < ((rd_L1 t244 x14_1).length : Int)) = true := decide_eq_true c14
                          clear c14
                          by_cases c15 : 0 ≤ (rd (rd_L1 t244 x14_1) x20_2)
                          · rw [if_pos c15] at H
                            have c15b0 : decide (0 ≤ (rd (rd_L1 t244 x14_1) x20_2)) = true := decide_eq_true c15
                            clear c15
                            by_cases c16 : (rd (rd_L1 t244 x14_1) x20_2) < (x3_2.length : Int)
                            · rw [if_pos c16] at H
                              have c16b0 : decide ((rd (rd_L1 t244 x14_1) x20_2) < (x3_2.length : Int)) = true := decide_eq_true c16
                              clear c16
                              obtain ⟨y249, hy249⟩ : ∃ y_ : List Int, y_ = (x3_2.set ((rd (rd_L1 t244 x14_1) x20_2) : Int).toNat ((rd_L1 t244 x14_1).length : Int)) := ⟨_, rfl⟩
                              replace H : (impl_sizeOfEach.l1 k2 y249 (rd_L1 t244 x14_1) t244 (t244.length : Int) x14_1 (rd_L1 t244 x14_1) ((rd_L1 t244 x14_1).length : Int) (wrap64 (x20_2 + 1))) = some r := by first | (rw [hy249]; with_reducible exact H) | (have H2_ := (Option.bind_some _ _).symm.trans H; rw [hy249]; with_reducible exact H2_) | (have H2_ := (Option.bind_some _ _).symm.trans H; with_reducible exact H2_) | with_reducible exact H | (rw [hy249]; exact H) | exact H
                              have Ny249 := Aside0.mk hy249
                              clear hy249
                              have H' := Aside0.mk H
                              clear H
                              have p248 : 0 ≤ (x20_2 : Int) := of_decide_eq_true (by first | (with_reducible assumption) | assumption)
                              have q248 : x20_2 < ((rd_L1 t244 x14_1).length : Int) := of_decide_eq_true (by first | (with_reducible assumption) | assumption)
                              obtain ⟨ad248, e248, hx248_0⟩ := Kd.at_int (Kd.R_reads' HE247.out).2.2 x20_2 p248 q248
                              cases e248
                              replace p248 := eq_true p248
                              replace q248 := eq_true q248
                              have p17 : 0 ≤ ((rd (rd_L1 t244 x14_1) x20_2) : Int) := of_decide_eq_true (by first | (with_reducible assumption) | assumption)
                              have q17 : ((rd (rd_L1 t244 x14_1) x20_2) : Int) < ((x3_2.length : Int) : Int) := of_decide_eq_true (by first | (with_reducible assumption) | assumption)
                              obtain ⟨go17, co17, eo17, gb17, gl17, cl17, HG17⟩ := Kd.R_form HO_3.out (by omega)
                              (first | cases eo17 | (injection eo17 with ea_ en_ ec_; (first | subst ea_ | (injection ea_ with ea_; subst ea_)); subst ec_; clear en_))
                              have GB17 := Aside0.mk gb17
                              have GG17 := Aside0.mk HG17
                              clear gb17 gl17 HG17
                              obtain ⟨hx17_0, hf17_0⟩ := Kd.R_celln 0 HO_3.out ((rd (rd_L1 t244 x14_1) x20_2) : Int) p17 q17
                              replace p17 := eq_true p17
                              replace q17 := eq_true q17
                              have HP18 := Kd.R_putg HO_3.out ((rd (rd_L1 t244 x14_1) x20_2) : Int) ((rd_L1 t244 x14_1).length : Int)
                              go_wp2_with (first | ((with_reducible refine gate_store (t := 3) (p := 28) rfl ?_); refine store_event (t := 3) (p := 28) (v := ?vo_w19) (w1 := (wr.setCell ⟨go17, ((rd (rd_L1 t244 x14_1) x20_2) : Int).toNat, none⟩ (.int .i64 ((rd_L1 t244 x14_1).length : Int)))) ?hg ?ho ?hn ?hr ?_; (case ho => rfl); (case hg => rfl); (case hn => rfl); (case hr => first | (go_simp; done) | (go_simp; rfl)); intro w19 hw; have hg : wr.grownBy w19 (some go17) := (by rw [hw]; exact HP18.2); have hp_ : Kd.R (Kd.int .i64) 3 w19 w.heap.size (fun _ => True) (.slice (some ⟨go17, 0, none⟩) x3_2.length co17) y249 := (by rw [hw, Ny249.out]; exact HP18.1); clear HP18; have n0_ := Aside0.mk (hp_); have n1_ := Aside0.mk (Kd.S_after (v := (.slice (some ⟨go17, 0, none⟩) x3_2.length co17)) (v1 := (.slice (some ⟨go17, 0, none⟩) x3_2.length co17)) (ok := (fun _ => True)) (by (with_reducible repeat (first | apply Kd.S_alloc | apply Kd.S_drewN | apply Kd.S_drew)); exact Kd.S_mono HO_12.out (fun _ hk => ⟨trivial, hk⟩)) hg (.inl rfl)); have n2_ := Aside0.mk ((by rw [hw]; exact below_set (HB.out) GB17.out : Below w.heap.size w w19)); have nE_ := Aside0.mk (Kd.R_grown HE247.out hg (fun k_ hk => by simpa [Value.ownBlock] using hk)); clear HE247; have HE247 := nE_; clear nE_; clear HO_3; clear HO_12; clear HB; have HO_3 := n0_; have HO_12 := n1_; have HB := n2_; clear n0_ n1_ n2_; clear hg hw hp_))
                              go_roundg k2
                              case measure => have := HK1.out; have := HK2.out; omega
                              case rel => exact ⟨(y249), (wrap64 (x20_2 + 1)), (by first | rfl | (simp; done) | (simp [*]; done)), H', ⟨by have := HK1.out; have := HK2.out; omega⟩, ⟨by (with_reducible repeat (first | apply Kd.R_alloc | apply Kd.R_drewN | apply Kd.R_drew)); exact HO_3.out⟩, ⟨by (with_reducible repeat (first | apply Kd.S_alloc | apply Kd.S_drewN | apply Kd.S_drew)); exact Kd.S_mono HO_12.out (fun _ hk => hk.2)⟩, ⟨HE247.out⟩, ⟨by repeat (first | (with_reducible first | exact HB.out | apply below_alloc | apply pw_below_drewN | apply below_drew1) | exact HB.out)⟩⟩
                            · rw [if_neg c16] at H
                              exact absurd H (by simp)
                          · rw [if_neg c15] at H
                            exact absurd H (by simp)
                        · rw [if_neg c14] at H
                          exact absurd H (by simp)
                      · rw [if_neg c13] at H
                        exact absurd H (by simp)
                    · rw [if_neg c12] at H
                      have c12b0 : decide (x20_2 < ((rd_L1 t244 x14_1).length : Int)) = false := decide_eq_false c12
                      clear c12
                      have H' := Aside0.mk H
                      clear H
                      go_wp2
                      go_roundg k2
                      case measure => have := HK1.out; have := HK2.out; omega
                      case rel => exact ⟨(x3_2), (wrap64 (x14_1 + 1)), (by first | rfl | (simp; done) | (simp [*]; done)), H', ⟨by have := HK1.out; have := HK2.out; omega⟩, ⟨by (with_reducible repeat (first | apply Kd.R_alloc | apply Kd.R_drewN | apply Kd.R_drew)); exact HO_3.out⟩, ⟨by (with_reducible repeat (first | apply Kd.S_alloc | apply Kd.S_drewN | apply Kd.S_drew)); exact HO_12.out⟩, ⟨by repeat (first | (with_reducible first | exact HB.out | apply below_alloc | apply pw_below_drewN | apply below_drew1) | exact HB.out)⟩⟩
              · rw [if_neg c11] at H
                exact absurd H (by simp)
            · rw [if_neg c10] at H
              exact absurd H (by simp)
          · rw [if_neg c9] at H
            have c9b0 : decide (x14_1 < (t244.length : Int)) = false := decide_eq_false c9
            clear c9
            obtain rfl := Option.some.inj H
            go_wp2
            go_ret
            exact ⟨_, by first | rfl | (simp [errW_none, errW_some] <;> rfl) | (simp [*, errW_none, errW_some] <;> rfl), by (with_reducible repeat (first | apply Kd.R_alloc | apply Kd.R_drewN | apply Kd.R_drew)); exact HO_3.out, by repeat (first | (with_reducible first | exact HB.out | apply below_alloc | apply pw_below_drewN | apply below_drew1) | exact HB.out)⟩
    · rw [if_neg c3] at H
      exact absurd H (by simp)
  · rw [if_neg c2] at H
    exact absurd H (by simp)

/-! ### impl_tells: function 51 -/
/-- The keys of labels. -/
def impl_tells.keys (s t : List Int) : List Int := List.zipWith (fun x y => x * 13 + y) s t
def impl_tells.f (k : Nat) (l0 l1 : List Int) : Option Bool := (impl_sizeOfEach.f k l0).bind fun s => (impl_sizeOfEach.f k l1).bind fun t => if s.length ≤ t.length ∧ (∀ x ∈ s, 0 ≤ x ∧ x ≤ 12) ∧ (∀ x ∈ t, 0 ≤ x ∧ x ≤ 12) then some (decide (impl_tells.keys s t).Nodup) else none
theorem impl_tells.mono : ∀ a0 a1 k, LeO (impl_tells.f k a0 a1) (impl_tells.f (k + 1) a0 a1) := fun a0 a1 k => LeO.bind (impl_sizeOfEach.mono _ _) (fun _ => LeO.bind (impl_sizeOfEach.mono _ _) (fun _ => LeO.refl _))
/-- The array behind keys: which have been seen. -/
def impl_tells.bits (ks : List Int) : Array Value := ((List.range 169).map (fun (j : Nat) => Value.bool (decide ((j : Int) ∈ ks)))).toArray
theorem impl_tells.bits_get (ks : List Int) {j : Nat} (h : j < 169) : (impl_tells.bits ks)[j]? = some (.bool (decide ((j : Int) ∈ ks))) := by
  simp [impl_tells.bits, h]
theorem impl_tells.bits_set (ks : List Int) {j : Nat} (h : j < 169) : (impl_tells.bits ks).setIfInBounds j (.bool true) = impl_tells.bits (ks ++ [(j : Int)]) := by
  apply Array.ext_getElem?
  intro i
  rw [Array.getElem?_setIfInBounds]
  by_cases hi : i < 169
  · rw [impl_tells.bits_get _ hi, impl_tells.bits_get _ hi]
    by_cases e : j = i
    · subst e; simp [impl_tells.bits, h]
    · have e2 : ¬ (i : Int) = (j : Int) := by omega
      simp [e, e2]
  · have n1 : (impl_tells.bits ks)[i]? = none := by simp [impl_tells.bits, hi]
    have n2 : (impl_tells.bits (ks ++ [(j : Int)]))[i]? = none := by simp [impl_tells.bits, hi]
    rw [n1, n2, if_neg (by omega)]
theorem impl_tells.keys_len (s t : List Int) (h : s.length ≤ t.length) : (impl_tells.keys s t).length = s.length := by simp [impl_tells.keys]; omega
theorem impl_tells.keys_get (s t : List Int) {x : Nat} (h : x < s.length) (h2 : x < t.length) : (impl_tells.keys s t)[x]? = some (rd s (x : Int) * 13 + rd t (x : Int)) := by
  simp [impl_tells.keys, rd, List.getD_eq_getElem?_getD, h, h2, List.getElem?_zipWith]
theorem impl_tells.info : (Try.prog.info? 100).map (fun i => (i.zero, i.size)) = some (some (.agg (impl_tells.bits [])), 169) := by kernel_rfl
set_option maxHeartbeats 1000000 in
set_option maxRecDepth 100000 in
theorem impl_tells.calls (k : Nat) (A0 : Option Addr) (c0 : Nat) (l0 : List Int) (A1 : Option Addr) (c1 : Nat) (l1 : List Int) (r : Bool) (w : World) (hr0 : Kd.C (Kd.int .i64) w A0 l0.length l0) (hc0 : l0.length ≤ c0) (hr1 : Kd.C (Kd.int .i64) w A1 l1.length l1) (hc1 : l1.length ≤ c1) (h : impl_tells.f k l0 l1 = some r) :
    Calls Try.prog 51 #[.slice A0 l0.length c0, .slice A1 l1.length c1] w fun e w' => e = .returned (.bool r) ∧ Below w.heap.size w w' := by
  have HR0 := Aside0.mk hr0
  have HC0 := Aside0.mk hc0
  have HR1 := Aside0.mk hr1
  have HC1 := Aside0.mk hc1
  clear hr0 hc0 hr1 hc1
  unfold impl_tells.f at h
  replace h := Option.bind_eq_some_iff.mp h
  obtain ⟨s, hs, h⟩ := h
  replace h := Option.bind_eq_some_iff.mp h
  obtain ⟨t, ht, h⟩ := h
  by_cases hg : s.length ≤ t.length ∧ (∀ x ∈ s, 0 ≤ x ∧ x ≤ 12) ∧ (∀ x ∈ t, 0 ≤ x ∧ x ≤ 12)
  case neg => rw [if_neg hg] at h; cases h
  rw [if_pos hg] at h
  have HE := Aside0.mk (Option.some.inj h)
  have HG := Aside0.mk hg
  have HS := Aside0.mk hs
  have HT := Aside0.mk ht
  clear h hg hs ht
  have HB := Aside0.mk (Below.refl w.heap.size w)
  have hz : ∀ W : World, (zeroValue 100).run Try.prog W = .ok (.agg (impl_tells.bits [])) W := (zero_of_info impl_tells.info).1
  have hst : ∀ W : World, (storeCells ⟨W.heap.size, 0, none⟩ (impl_tells.bits []).toList 0).run Try.prog (W.alloc (.cells (impl_tells.bits []) 100)) = .ok () (W.alloc (.cells (impl_tells.bits []) 100)) := fun W => run_storeCells_new (P := Try.prog) W 100 _ _ ((zero_of_info impl_tells.info).2.trans (by simp [impl_tells.bits])) rfl (by simp [impl_tells.bits, Array.all_eq_true]; intros; rfl)
  go_enter Try.func51, Try.ntmps51
  go_wp2_with fail
  refine (impl_sizeOfEach.calls k A0 c0 l0 s w HR0.out HC0.out HS.out).mono ?_
  rintro e w1 ⟨v1, rfl, hv, hb⟩
  obtain ⟨a1, d1, rfl⟩ := Kd.R_slice hv
  have O1 := Aside0.mk hv
  have B1 := Aside0.mk hb
  clear hv hb
  go_wp2_with fail
  refine (impl_sizeOfEach.calls k A1 c1 l1 t w1 (Kd.C_below HR1.out B1.out) HC1.out HT.out).mono ?_
  rintro e w2 ⟨v2, rfl, hv, hb⟩
  obtain ⟨a2, d2, rfl⟩ := Kd.R_slice hv
  have O2 := Aside0.mk hv
  have B2 := Aside0.mk hb
  clear hv hb
  have HX := Aside0.mk (⟨Nat.zero_le _, Nat.sub_le _ _⟩ : 0 ≤ s.length ∧ s.length - 0 ≤ s.length)
  go_wp2
  have N2 : Aside0 (Below w2.heap.size w2 (w2.alloc (.cells (impl_tells.bits []) 100))) := ⟨below_alloc (Below.refl _ _) _⟩
  go_loopg [18] s.length (fun gg v18 w' => ∃ x : Nat, v18 = .int .i64 (x : Int) ∧ Aside0 (x ≤ s.length ∧ s.length - x ≤ gg) ∧ Aside0 (((impl_tells.keys s t).take x).Nodup) ∧ Aside0 (w'.heap[w2.heap.size]? = some (.cells (impl_tells.bits ((impl_tells.keys s t).take x)) 100 (0, 0))) ∧ Aside0 (Below w.heap.size w w') ∧ Aside0 (Kd.R (Kd.int .i64) 3 w' w.heap.size (fun k => k < w2.heap.size) (.slice a1 s.length d1) s) ∧ Aside0 (Kd.R (Kd.int .i64) 3 w' w1.heap.size (fun k => k < w2.heap.size) (.slice a2 t.length d2) t))
  case atStart => exact ⟨0, rfl, HX, ⟨by simp⟩, ⟨heap_alloc_new _ _⟩, ⟨below_alloc (below_step B1.out B2.out) _⟩, ⟨Kd.R_below (Kd.R_mono (Kd.R_bound (Kd.R_below O1.out B2.out)) (fun _ hk => hk.2.2.1)) N2.out⟩, ⟨Kd.R_below (Kd.R_mono (Kd.R_bound O2.out) (fun _ hk => hk.2.2.1)) N2.out⟩⟩
  case round =>
    clear HX N2 O1 O2 hz hst
    obtain ⟨x, rfl, HX, HN, HC, HBW, O1, O2⟩ := hrel
    by_cases hlt : x < s.length
    · have hlt2 : x < t.length := Nat.lt_of_lt_of_le hlt HG.out.1
      have HL := Aside0.mk hlt
      have hs1 : 0 ≤ rd s (x : Int) ∧ rd s (x : Int) ≤ 12 := HG.out.2.1 _ (by simp [rd, List.getD_eq_getElem?_getD, hlt])
      have ht1 : 0 ≤ rd t (x : Int) ∧ rd t (x : Int) ≤ 12 := HG.out.2.2 _ (by simp [rd, List.getD_eq_getElem?_getD, hlt2])
      have hk := impl_tells.keys_get s t hlt hlt2
      obtain ⟨g1, e1, hx1⟩ := Kd.at_int (Kd.R_reads' O1.out).2.2 (x : Int) (by omega) (by omega)
      obtain ⟨g2, e2, hx2⟩ := Kd.at_int (Kd.R_reads' O2.out).2.2 (x : Int) (by omega) (by omega)
      subst e1 e2
      rw [Int.toNat_natCast] at hx1 hx2
      generalize rd s (x : Int) = p at hx1 hs1 hk
      generalize rd t (x : Int) = q at hx2 ht1 hk
      obtain ⟨p0, p1⟩ := hs1
      obtain ⟨q0, q1⟩ := ht1
      have b0 : 0 ≤ p * 13 + q := by omega
      have b1 : p * 13 + q < 169 := by omega
      have hcell := (blk_cell HC.out (p * 13 + q).toNat).trans (impl_tells.bits_get _ (by omega))
      rw [Int.toNat_of_nonneg b0] at hcell
      have HK := Aside0.mk hk
      clear hk
      have d0 : decide ((x : Int) < (s.length : Int)) = true := decide_eq_true (by omega)
      have d1 : decide (x < s.length) = true := decide_eq_true hlt
      have d2 : decide ((x : Int) < (t.length : Int)) = true := decide_eq_true (by omega)
      have d3 : decide (x < t.length) = true := decide_eq_true hlt2
      have htk := HK.out
      have hsucc : (impl_tells.keys s t).take (x + 1) = (impl_tells.keys s t).take x ++ [p * 13 + q] := by rw [List.take_add_one, HK.out]; rfl
      have HSU := Aside0.mk hsucc
      clear hsucc htk
      by_cases hm : (p * 13 + q) ∈ (impl_tells.keys s t).take x
      · rw [decide_eq_true hm] at hcell
        have HM := Aside0.mk hm
        clear hm
        go_wp2
        go_ret
        have hnd : decide (impl_tells.keys s t).Nodup = false := decide_eq_false (fun hnd => by
          have h3 := (List.Nodup.sublist (List.take_sublist (x + 1) _) hnd)
          rw [HSU.out, List.nodup_append] at h3
          exact h3.2.2 _ HM.out _ List.mem_cons_self rfl)
        exact ⟨by rw [← HE.out, hnd]; rfl, HBW.out⟩
      · rw [decide_eq_false hm] at hcell
        have HM := Aside0.mk hm
        clear hm
        have hfz : wr.frozen? ⟨w2.heap.size, (p * 13 + q).toNat, none⟩ = false := blk_frozen HC.out _
        go_wp2
        have hmax := (Kd.R_reads' O1.out).2.2.2.1
        have hup : wrap64 ((x : Int) + 1) = ((x + 1 : Nat) : Int) := by unfold wrap64; omega
        go_roundg (s.length - (x + 1))
        case measure => have := HX.out; omega
        case rel =>
          refine ⟨x + 1, by rw [hup], ⟨by omega, by omega⟩, ⟨?_⟩, ⟨?_⟩, ⟨below_set HBW.out (Nat.le_trans B1.out.size B2.out.size)⟩, ⟨Kd.R_far O1.out (fun k hk => Nat.ne_of_lt hk) _⟩, ⟨Kd.R_far O2.out (fun k hk => Nat.ne_of_lt hk) _⟩⟩
          · rw [HSU.out, List.nodup_append]
            refine ⟨HN.out, by simp, fun a ha b hb => ?_⟩
            rw [List.mem_singleton] at hb
            subst hb
            intro e
            subst e
            exact HM.out ha
          · have h3 := blk_set HC.out (p * 13 + q).toNat (.bool true)
            rw [impl_tells.bits_set _ (by omega), Int.toNat_of_nonneg b0, ← HSU.out] at h3
            exact h3
    · have d0 : decide ((x : Int) < (s.length : Int)) = false := decide_eq_false (by omega)
      have d1 : decide (x < s.length) = false := decide_eq_false hlt
      have HL := Aside0.mk hlt
      clear hlt
      go_wp2
      go_ret
      have h3 := HN.out
      rw [List.take_of_length_le (by rw [impl_tells.keys_len s t HG.out.1]; have := HL.out; omega)] at h3
      exact ⟨by rw [← HE.out, decide_eq_true h3]; rfl, HBW.out⟩


-- NOT PRINTED: function 83 (impl_partner_1)

/-! ### impl_partner: function 41 -/
/-- Whether a grouping is a partner; what has been found; whether to go on. -/
def impl_partner.step (k : Nat) (a : List Int) (s : Option (List Int)) (gs : List Int) : Option (Option (List Int) × Bool) := if gs = [] then none else (impl_tells.f k a gs).bind fun t => some (if t = true then (some gs, false) else (s, s.isNone))
def impl_partner.f (k : Nat) (a : List Int) : Option (Option (List Int)) := if a.length ≤ 1000 then (impl_groupings.walk (impl_partner.step k a) a.length [] 0 none).bind fun r => some r.1 else none
theorem impl_partner.mono_step (k : Nat) (a : List Int) (s : Option (List Int)) (gs : List Int) : LeO (impl_partner.step k a s gs) (impl_partner.step (k + 1) a s gs) := by
  unfold impl_partner.step
  exact LeO.ite (LeO.none _) (LeO.bind (impl_tells.mono _ _ _) (fun _ => LeO.refl _))
theorem impl_partner.mono : ∀ a k, LeO (impl_partner.f k a) (impl_partner.f (k + 1) a) := fun a k => LeO.ite (LeO.bind (impl_groupings.walk_mono (fun s gs => impl_partner.mono_step k a s gs) _ _ _ _) (fun _ => LeO.refl _)) (LeO.none _)
/-- What lies in the variable for what has been found. -/
def impl_partner.Out (B bo : Nat) (s : Option (List Int)) (w : World) : Prop := match s with
  | none => w.heap[bo]? = some (.cells #[.slice none 0 0] 22 (0, 0))
  | some gs => ∃ (ad : Addr) (c : Nat), w.heap[bo]? = some (.cells #[.slice (some ad) gs.length c] 22 (0, 0)) ∧ Kd.R (Kd.int .i64) 3 w B (fun _ => True) (.slice (some ad) gs.length c) gs
structure impl_partner.Inv (w0 : World) (B ba bo : Nat) (A : Option Addr) (c : Nat) (a : List Int) (s : Option (List Int)) (w : World) : Prop where
  arg : w.cell? ⟨ba, 0, none⟩ = some (.slice A a.length c)
  bel : Below w0.heap.size w0 w
  out : impl_partner.Out B bo s w
theorem impl_partner.Inv.below {w0 : World} {B ba bo : Nat} {A : Option Addr} {c : Nat} {a : List Int} {s : Option (List Int)} {w w' : World} (h : impl_partner.Inv w0 B ba bo A c a s w) (hb : Below w.heap.size w w') : impl_partner.Inv w0 B ba bo A c a s w' := by
  refine ⟨(hb.cell (World.block_lt_of_cell? w _ h.arg)).trans h.arg, below_step h.bel hb, ?_⟩
  have ho := h.out
  unfold impl_partner.Out at ho ⊢
  cases s with
  | none => exact blk_below ho hb
  | some gs =>
    obtain ⟨ad, c', h1, h2⟩ := ho
    exact ⟨ad, c', blk_below h1 hb, Kd.R_below h2 hb⟩
theorem impl_partner.some_of {w : World} {B : Nat} {ok : Nat → Prop} {A : Option Addr} {c : Nat} {gs : List Int} (h : Kd.R (Kd.int .i64) 3 w B ok (.slice A gs.length c) gs) (hne : gs ≠ []) : ∃ ad, A = some ad := by
  obtain ⟨ad, h1, _⟩ := (Kd.R_reads' h).2.2.2.2 (by cases gs with | nil => exact absurd rfl hne | cons x l => simp)
  exact ⟨ad, h1⟩
set_option maxHeartbeats 2000000 in
set_option maxRecDepth 100000 in
theorem impl_partner.each (k : Nat) (a : List Int) (w0 : World) (B ba bo : Nat) (A : Option Addr) (c : Nat) (hC : Kd.C (Kd.int .i64) w0 A a.length a) (hc : a.length ≤ c) (hbo : bo < B) (h0 : w0.heap.size ≤ bo) (hab : ba ≠ bo) :
    impl_groupings.Each (impl_partner.step k a) (impl_partner.Inv w0 B ba bo A c a) (fun q => q = bo) B 83 #[.pointer (some ⟨ba, 0, none⟩), .pointer (some ⟨bo, 0, none⟩)] := by
  intro s gs s' b v W hi hR hB hs
  unfold impl_partner.step at hs
  by_cases hne : gs = []
  · rw [if_pos hne] at hs; cases hs
  rw [if_neg hne] at hs
  obtain ⟨t, ht, hs⟩ := Option.bind_eq_some_iff.mp hs
  obtain ⟨A2, c2, rfl⟩ := Kd.R_slice hR
  obtain ⟨ad2, rfl⟩ := impl_partner.some_of hR hne
  have harg := hi.arg
  have HI := Aside0.mk hi
  have HR := Aside0.mk hR
  have HT := Aside0.mk ht
  have HS := Aside0.mk hs
  have HBS := Aside0.mk hB
  clear hi hR ht hs hB hne
  have e0 : ∀ w : World, (binOp .eql 22 (.slice none 0 0) (.slice none 0 0)).run Try.prog w = .ok (.bool true) w := fun _ => rfl
  have e1 : ∀ (w : World) (ad : Addr) (n q : Nat), (binOp .eql 22 (.slice (some ad) n q) (.slice none 0 0)).run Try.prog w = .ok (.bool false) w := fun _ _ _ _ => rfl
  go_enter Try.func83, Try.ntmps83
  go_wp2_with fail
  refine (impl_tells.calls k A c a (some ad2) c2 gs t W (Kd.C_below hC HI.out.bel) hc (Kd.R_reads' HR.out).2.2 (Kd.R_reads' HR.out).2.1 HT.out).mono ?_
  rintro e w1 ⟨rfl, hb⟩
  have I1 := Aside0.mk (HI.out.below hb)
  have R1 := Aside0.mk (Kd.R_below HR.out hb)
  have B1 := Aside0.mk hb
  clear hb HI HR HT harg
  cases t with
  | false =>
    have hs := HS.out
    rw [if_neg (by simp)] at hs
    obtain ⟨rfl, rfl⟩ := Prod.mk.inj (Option.some.inj hs)
    clear hs HS
    have ho := I1.out.out
    unfold impl_partner.Out at ho
    cases s with
    | none =>
      have h1 := (blk_cell ho 0).trans rfl
      clear ho
      go_wp2
      go_ret
      exact ⟨rfl, I1.out, impl_groupings.KO.below B1.out⟩
    | some g0 =>
      obtain ⟨ad, c', h1, h2⟩ := ho
      have h3 := (blk_cell h1 0).trans rfl
      clear h1 h2
      go_wp2
      go_ret
      exact ⟨rfl, I1.out, impl_groupings.KO.below B1.out⟩
  | true =>
    have hs := HS.out
    rw [if_pos rfl] at hs
    obtain ⟨rfl, rfl⟩ := Prod.mk.inj (Option.some.inj hs)
    clear hs HS
    obtain ⟨u, hu⟩ : ∃ u : Value, w1.heap[bo]? = some (.cells #[u] 22 (0, 0)) := by
      have ho := I1.out.out
      unfold impl_partner.Out at ho
      cases s with
      | none => exact ⟨_, ho⟩
      | some g0 =>
        obtain ⟨ad, c', h1, h2⟩ := ho
        exact ⟨_, h1⟩
    have h1 : w1.cell? ⟨bo, 0, none⟩ = some u := (blk_cell hu 0).trans rfl
    have h2 : w1.frozen? ⟨bo, 0, none⟩ = false := blk_frozen hu 0
    have HU := Aside0.mk hu
    clear hu
    go_wp2
    go_ret
    refine ⟨rfl, ⟨?_, below_set I1.out.bel h0, ?_⟩, (impl_groupings.KO.below B1.out).trans (impl_groupings.KO.set (K := fun q => q = bo) (p := ⟨bo, 0, none⟩) w1 rfl _)⟩
    · exact (World.cell?_of_block (Below.heap_setCell w1 ⟨bo, 0, none⟩ _ ba hab)).trans I1.out.arg
    · exact ⟨ad2, c2, blk_set HU.out 0 _, Kd.R_mono (Kd.R_far (p := ⟨bo, 0, none⟩) (Kd.R_mono (ok' := fun k => k ≠ bo) (Kd.R_bound R1.out) (fun k hk e => by have := hk.2.1; omega)) (fun k hk => hk) _) (fun _ _ => trivial)⟩
/-- What is handed back: nothing, or a row of one's own. -/
def impl_partner.Res (B : Nat) (r : Option (List Int)) (w' : World) (v : Value) : Prop := match r with
  | none => v = .slice none 0 0
  | some gs => ∃ (ad : Addr) (c : Nat), v = .slice (some ad) gs.length c ∧ Kd.R (Kd.int .i64) 3 w' B (fun _ => True) (.slice (some ad) gs.length c) gs
set_option maxHeartbeats 2000000 in
set_option maxRecDepth 100000 in
theorem impl_partner.calls (k : Nat) (A0 : Option Addr) (c0 : Nat) (l0 : List Int) (r : Option (List Int)) (w : World) (hr0 : Kd.C (Kd.int .i64) w A0 l0.length l0) (hc0 : l0.length ≤ c0) (h : impl_partner.f k l0 = some r) :
    Calls Try.prog 41 #[.slice A0 l0.length c0] w fun e w' => ∃ v0_ : Value, e = .returned v0_ ∧ impl_partner.Res w.heap.size r w' v0_ ∧ Below w.heap.size w w' := by
  unfold impl_partner.f at h
  split at h
  case isFalse => cases h
  rename_i hlen
  obtain ⟨⟨s, b⟩, hw, hs⟩ := Option.bind_eq_some_iff.mp h
  cases hs
  have HR := Aside0.mk hr0
  have HC := Aside0.mk hc0
  have HW := Aside0.mk hw
  have HL := Aside0.mk hlen
  clear hr0 hc0 hw h hlen
  go_enter Try.func41, Try.ntmps41
  go_wp2_with fail
  have hsz : (w.alloc (.cells #[.slice A0 l0.length c0] 22)).heap.size = w.heap.size + 1 := by simp
  have g1 : ((w.alloc (.cells #[.slice A0 l0.length c0] 22)).alloc (.cells #[.slice none 0 0] 22)).cell? ⟨w.heap.size, 0, none⟩ = some (.slice A0 l0.length c0) := (blk_cell (blk_alloc (heap_alloc_new w _) _) 0).trans rfl
  have g2 : ((w.alloc (.cells #[.slice A0 l0.length c0] 22)).alloc (.cells #[.slice none 0 0] 22)).heap[w.heap.size + 1]? = some (.cells #[.slice none 0 0] 22 (0, 0)) := by
    have g := heap_alloc_new (w.alloc (.cells #[.slice A0 l0.length c0] 22)) (.cells #[.slice none 0 0] 22)
    rw [hsz] at g
    exact g
  have g3 : Below w.heap.size w ((w.alloc (.cells #[.slice A0 l0.length c0] 22)).alloc (.cells #[.slice none 0 0] 22)) := below_alloc (below_alloc (Below.refl _ _) _) _
  have eg : ∀ args w, (callFunc 83 args).run Try.prog w = .ok (.enter 83 args) w := enters_ Try.func83 (by rfl) rfl
  refine (impl_groupings.all (impl_partner.step k l0) (impl_partner.Inv w (w.heap.size + 2) w.heap.size (w.heap.size + 1) A0 c0 l0) (fun q => q = w.heap.size + 1) (w.heap.size + 2) 83 #[.pointer (some ⟨w.heap.size, 0, none⟩), .pointer (some ⟨w.heap.size + 1, 0, none⟩)] (impl_partner.each k l0 w (w.heap.size + 2) w.heap.size (w.heap.size + 1) A0 c0 HR.out HC.out (by omega) (by omega) (by omega)) eg (fun s W W' hi hb => hi.below hb) (fun q hq => by omega) l0.length HL.out none s b _ ⟨g1, g3, g2⟩ (by simp) HW.out).mono ?_
  rintro e w' ⟨rfl, hi, hk⟩
  have HI := Aside0.mk hi
  have ho := hi.out
  clear g1 g2 g3 hi hk eg
  unfold impl_partner.Out at ho
  cases s with
  | none =>
    have h1 := (blk_cell ho 0).trans rfl
    clear ho
    go_wp2
    go_ret
    exact ⟨_, rfl, rfl, HI.out.bel⟩
  | some gs =>
    obtain ⟨ad, c', h1, h2⟩ := ho
    have h3 := (blk_cell h1 0).trans rfl
    have H2 := Aside0.mk h2
    clear h1 h2
    go_wp2
    go_ret
    have HL2 : Kd.R (Kd.int .i64) 3 w' w.heap.size (fun _ => True) (.slice (some ad) gs.length c') gs := Kd.R_lower H2.out (by omega)
    refine ⟨.slice (some ad) gs.length c', rfl, ?_, HI.out.bel⟩
    exact ⟨ad, c', rfl, HL2⟩


/-! ### impl_FirstPartner: function 11 -/
def impl_FirstPartner.res : Option (List Int) → List Int × Bool
  | none => ([], false)
  | some b => (b, true)
def impl_FirstPartner.f (k : Nat) (a : List Int) : Option (List Int × Bool) := (impl_IsGrouping.f k a).bind fun g => if g = true then (impl_areListed.f (a.length : Int)).bind fun t => (if t = true then (impl_partner.f k a).bind fun o => some (impl_FirstPartner.res o) else some ([], false)) else some ([], false)
theorem impl_FirstPartner.mono : ∀ a k, LeO (impl_FirstPartner.f k a) (impl_FirstPartner.f (k + 1) a) := fun a k => LeO.bind (impl_IsGrouping.mono _ _) (fun _ => LeO.ite (LeO.bind (LeO.refl _) (fun _ => LeO.ite (LeO.bind (impl_partner.mono _ _) (fun _ => LeO.refl _)) (LeO.refl _))) (LeO.refl _))
set_option maxHeartbeats 2000000 in
set_option maxRecDepth 100000 in
theorem impl_FirstPartner.calls (k : Nat) (A0 : Option Addr) (c0 : Nat) (l0 : List Int) (r1 : List Int) (r2 : Bool) (w : World) (hr0 : Kd.C (Kd.int .i64) w A0 l0.length l0) (hc0 : l0.length ≤ c0) (h : impl_FirstPartner.f k l0 = some (r1, r2)) :
    Calls Try.prog 11 #[.slice A0 l0.length c0] w fun e w' => ∃ v0_ : Value, e = .returned (.tuple #[v0_, .bool r2]) ∧ Kd.R (Kd.int .i64) 3 w' w.heap.size (fun _ => True) v0_ r1 ∧ Below w.heap.size w w' := by
  unfold impl_FirstPartner.f at h
  obtain ⟨g, hg, h⟩ := Option.bind_eq_some_iff.mp h
  have HG := Aside0.mk hg
  have HR := Aside0.mk hr0
  have HC := Aside0.mk hc0
  clear hg hr0 hc0
  cases g with
  | false =>
    rw [if_neg (by simp)] at h
    obtain ⟨rfl, rfl⟩ := Prod.mk.inj (Option.some.inj h)
    clear h
    go_enter Try.func11, Try.ntmps11
    go_wp2_with fail
    refine (impl_IsGrouping.calls k A0 c0 l0 false _ HR.out HC.out HG.out).mono ?_
    rintro e w1 ⟨rfl, hb⟩
    have HB := Aside0.mk hb
    clear hb
    go_wp2
    go_ret2
    exact ⟨_, rfl, Kd.R_nil _ _ _ _ _, HB.out⟩
  | true =>
    rw [if_pos rfl] at h
    obtain ⟨t, ht, h⟩ := Option.bind_eq_some_iff.mp h
    have HT := Aside0.mk ht
    clear ht
    cases t with
    | false =>
      rw [if_neg (by simp)] at h
      obtain ⟨rfl, rfl⟩ := Prod.mk.inj (Option.some.inj h)
      clear h
      go_enter Try.func11, Try.ntmps11
      go_wp2_with fail
      refine (impl_IsGrouping.calls k A0 c0 l0 true _ HR.out HC.out HG.out).mono ?_
      rintro e w1 ⟨rfl, hb⟩
      have HB := Aside0.mk hb
      clear hb
      go_wp2_with fail
      refine (impl_areListed.calls (l0.length : Int) false _ HT.out).mono ?_
      rintro e w2 ⟨rfl, ⟨nd, rfl⟩⟩
      have HB2 := Aside0.mk (pw_below_drewN HB.out nd)
      go_wp2
      go_ret2
      exact ⟨_, rfl, Kd.R_nil _ _ _ _ _, HB2.out⟩
    | true =>
      rw [if_pos rfl] at h
      obtain ⟨o, ho, hs⟩ := Option.bind_eq_some_iff.mp h
      have HO := Aside0.mk ho
      have HS := Aside0.mk (Option.some.inj hs)
      clear h ho hs
      go_enter Try.func11, Try.ntmps11
      go_wp2_with fail
      refine (impl_IsGrouping.calls k A0 c0 l0 true _ HR.out HC.out HG.out).mono ?_
      rintro e w1 ⟨rfl, hb⟩
      have HB := Aside0.mk hb
      clear hb
      go_wp2_with fail
      refine (impl_areListed.calls (l0.length : Int) true _ HT.out).mono ?_
      rintro e w2 ⟨rfl, ⟨nd, rfl⟩⟩
      have HB2 := Aside0.mk (pw_below_drewN HB.out nd)
      clear HB
      generalize w1.drewN nd = w2 at HB2 ⊢
      go_wp2_with fail
      refine (impl_partner.calls k A0 c0 l0 o w2 (Kd.C_below HR.out HB2.out) HC.out HO.out).mono ?_
      rintro e w3 ⟨v3, rfl, hv, hb⟩
      have HB3 := Aside0.mk (below_step HB2.out hb)
      have HLE := Aside0.mk HB2.out.size
      clear hb
      have n0 : ∀ w : World, (binOp .neq 22 (.slice none 0 0) (.slice none 0 0)).run Try.prog w = .ok (.bool false) w := fun _ => rfl
      have n1 : ∀ (w : World) (ad : Addr) (n q : Nat), (binOp .neq 22 (.slice (some ad) n q) (.slice none 0 0)).run Try.prog w = .ok (.bool true) w := fun _ _ _ _ => rfl
      cases o with
      | none =>
        have hs := HS.out
        simp only [impl_FirstPartner.res, Prod.mk.injEq] at hs
        obtain ⟨rfl, rfl⟩ := hs
        have hv2 : v3 = .slice none 0 0 := hv
        subst hv2
        clear hv HS
        go_wp2
        go_ret2
        exact ⟨_, rfl, Kd.R_nil _ _ _ _ _, HB3.out⟩
      | some b =>
        have hs := HS.out
        simp only [impl_FirstPartner.res, Prod.mk.injEq] at hs
        obtain ⟨rfl, rfl⟩ := hs
        obtain ⟨ad, c', rfl, hb2⟩ := hv
        have HV := Aside0.mk (Kd.R_lower hb2 HLE.out)
        clear hb2 HS
        go_wp2
        go_ret2
        exact ⟨_, rfl, HV.out, HB3.out⟩


end Go.Proofs.Ytelhcooeafhgoaa.PFnExactFirstPartner
