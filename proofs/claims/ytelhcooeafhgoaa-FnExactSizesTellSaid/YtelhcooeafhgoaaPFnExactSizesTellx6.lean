-- Written by a program of this claim, over the kit's print: the functions that a law reaches, their plain forms and the walks.
import Derived.Test.YtelhcooeafhgoaaPFnExactSizesTellx0
import Derived.Test.YtelhcooeafhgoaaPFnExactSizesTellx5
namespace Go.Proofs.Ytelhcooeafhgoaa.PFnExactSizesTell
open Go.RowKit Go.Proofs.YtelhcooeafhgoaaW.PrintWords Go.Proofs.YtelhcooeafhgoaaW.PrintLast Go.Proofs.YtelhcooeafhgoaaW.PrintMore
attribute [local go_sem] max2_int min2_int max_two min_two max_three min_three max_four min_four   -- for this text's walks alone
set_option linter.unusedVariables false
set_option linter.unusedSimpArgs false

/-! ### impl_areSizes: function 46 -/
def impl_areSizes.l0 : Nat → List Int → Int → List Int → Int → Int → Option (Int × Bool)
  | 0, _, _, _, _, _ => none
  | k + 1, x0, x4, x7, x8, x9 => if x9 < x8 then (if 0 ≤ x9 then (if x9 < (x7.length : Int) then ((impl_within.f (rd x7 x9) 1 12).bind fun t262 => (if t262 = true then (if x9 > 0 then (if 0 ≤ (wrap64 (x9 - 1)) then (if (wrap64 (x9 - 1)) < (x0.length : Int) then (if (rd x7 x9) > (rd x0 (wrap64 (x9 - 1))) then (some (0, false)) else (impl_areSizes.l0 k x0 (wrap64 (x4 + (rd x7 x9))) x7 x8 (wrap64 (x9 + 1)))) else (none)) else (none)) else (impl_areSizes.l0 k x0 (wrap64 (x4 + (rd x7 x9))) x7 x8 (wrap64 (x9 + 1)))) else (some (0, false)))) else (none)) else (none)) else (if (x0.length : Int) ≤ 12 then ((impl_areWires.f x4).bind fun t264 => (some (x4, t264))) else (some (x4, false)))
def impl_areSizes.f (k : Nat) (l0 : List Int) : Option (Int × Bool) := impl_areSizes.l0 k l0 0 l0 (l0.length : Int) 0
theorem impl_areSizes.mono_l : ∀ k, (∀ y0 y1 y2 y3 y4, LeO (impl_areSizes.l0 k y0 y1 y2 y3 y4) (impl_areSizes.l0 (k + 1) y0 y1 y2 y3 y4))
  | 0 => fun _ _ _ _ _ r h => by simp [impl_areSizes.l0] at h
  | k + 1 => by
    have ih0 := impl_areSizes.mono_l k
    · intro y0 y1 y2 y3 y4
      unfold impl_areSizes.l0
      repeat' first
      | (with_reducible exact ih0 _ _ _ _ _)
      | (with_reducible exact LeO.refl _)
      | (with_reducible exact LeO.none _)
      | (with_reducible refine LeO.ite ?_ ?_)
      | (with_reducible refine LeO.bind ?_ (fun _ => ?_))
      | exact ih0 _ _ _ _ _
      | exact LeO.none _
      | refine LeO.ite ?_ ?_
      | refine LeO.bind ?_ (fun _ => ?_)
theorem impl_areSizes.mono : ∀ a0 k, LeO (impl_areSizes.f k a0) (impl_areSizes.f (k + 1) a0) := by
  intro a0 k
  have ih0 := impl_areSizes.mono_l k
  unfold impl_areSizes.f
  repeat' first
      | (with_reducible exact ih0 _ _ _ _ _)
      | (with_reducible exact LeO.refl _)
      | (with_reducible exact LeO.none _)
      | (with_reducible refine LeO.ite ?_ ?_)
      | (with_reducible refine LeO.bind ?_ (fun _ => ?_))
      | exact ih0 _ _ _ _ _
      | exact LeO.none _
      | refine LeO.ite ?_ ?_
      | refine LeO.bind ?_ (fun _ => ?_)
set_option maxHeartbeats 8000000 in
set_option maxRecDepth 100000 in
theorem impl_areSizes.calls (k : Nat) (A0 : Option Addr) (c0 : Nat) (l0 : List Int) (r1 : Int) (r2 : Bool) (w : World) (hr0 : Kd.C (Kd.int .i64) w A0 l0.length l0) (hc0 : l0.length ≤ c0) (h : impl_areSizes.f k l0 = some (r1, r2)) :
    Calls Try.prog 46 #[.slice A0 l0.length c0] w fun e w' => e = .returned (.tuple #[.int .i64 r1, .bool r2]) ∧ Drawn0 w w' := by
  have HR0 := Aside0.mk hr0
  have HC0 := Aside0.mk hc0
  clear hr0 hc0
  have H : (impl_areSizes.l0 k l0 0 l0 (l0.length : Int) 0) = some (r1, r2) := h
  clear h
  have H' := Aside0.mk H
  clear H
  go_enter Try.func46, Try.ntmps46
  go_wp2
  go_loopg [4, 9] k (fun kq v4 v9 w' => ∃ (x4_1 : Int) (x9_1 : Int), v4 = .int .i64 x4_1 ∧ v9 = .int .i64 x9_1 ∧ Aside0 (impl_areSizes.l0 kq l0 x4_1 l0 (l0.length : Int) x9_1 = some (r1, r2)) ∧ Aside0 (kq ≤ k) ∧ Drawn0 w w')
  case atStart => exact ⟨(0), (0), (by first | rfl | (simp; done) | (simp [*]; done)), (by first | rfl | (simp; done) | (simp [*]; done)), H', ⟨Nat.le_refl _⟩, by repeat (first | exact Drawn0.refl _ | apply Drawn0.step)⟩
  case round =>
    clear H'
    obtain ⟨x4_1, x9_1, rfl, rfl, HA, HK1, ⟨m1, rfl⟩⟩ := hrel
    cases gk with
    | zero => exact absurd HA.out (by simp [impl_areSizes.l0])
    | succ k1 =>
      have H := HA.out
      clear HA
      simp only [impl_areSizes.l0] at H
      by_cases c2 : x9_1 < (l0.length : Int)
      · rw [if_pos c2] at H
        have c2b0 : decide (x9_1 < (l0.length : Int)) = true := decide_eq_true c2
        clear c2
        by_cases c3 : 0 ≤ x9_1
        · rw [if_pos c3] at H
          have c3b0 : decide (0 ≤ x9_1) = true := decide_eq_true c3
          clear c3
          by_cases c4 : x9_1 < (l0.length : Int)
          · rw [if_pos c4] at H
            have c4b0 : decide (x9_1 < (l0.length : Int)) = true := decide_eq_true c4
            clear c4
            replace H := Option.bind_eq_some_iff.mp H
            obtain ⟨t262, A50, H⟩ := H
            replace H : (if t262 = true then (if x9_1 > 0 then (if 0 ≤ (wrap64 (x9_1 - 1)) then (if (wrap64 (x9_1 - 1)) < (l0.length : Int) then (if (rd l0 x9_1) > (rd l0 (wrap64 (x9_1 - 1))) then (some (0, false)) else (impl_areSizes.l0 k1 l0 (wrap64 (x4_1 + (rd l0 x9_1))) l0 (l0.length : Int) (wrap64 (x9_1 + 1)))) else (none)) else (none)) else (impl_areSizes.l0 k1 l0 (wrap64 (x4_1 + (rd l0 x9_1))) l0 (l0.length : Int) (wrap64 (x9_1 + 1)))) else (some (0, false))) = some (r1, r2) := H
            have A5 := Aside0.mk A50
            clear A50
            by_cases c6 : t262 = true
            · subst c6
              have H1 : (if x9_1 > 0 then (if 0 ≤ (wrap64 (x9_1 - 1)) then (if (wrap64 (x9_1 - 1)) < (l0.length : Int) then (if (rd l0 x9_1) > (rd l0 (wrap64 (x9_1 - 1))) then (some (0, false)) else (impl_areSizes.l0 k1 l0 (wrap64 (x4_1 + (rd l0 x9_1))) l0 (l0.length : Int) (wrap64 (x9_1 + 1)))) else (none)) else (none)) else (impl_areSizes.l0 k1 l0 (wrap64 (x4_1 + (rd l0 x9_1))) l0 (l0.length : Int) (wrap64 (x9_1 + 1)))) = some (r1, r2) := by rw [if_pos rfl] at H; exact H
              clear H
              have H := H1
              clear H1
              by_cases c7 : x9_1 > 0
              · rw [if_pos c7] at H
                have c7b0 : decide (0 < x9_1) = true := decide_eq_true c7
                clear c7
                obtain ⟨ji8, hji8⟩ : ∃ j_ : Int, (wrap64 (x9_1 - 1)) = j_ := ⟨_, rfl⟩
                replace H : (if 0 ≤ (ji8) then (if (ji8) < (l0.length : Int) then (if (rd l0 x9_1) > (rd l0 (ji8)) then (some (0, false)) else (impl_areSizes.l0 k1 l0 (wrap64 (x4_1 + (rd l0 x9_1))) l0 (l0.length : Int) (wrap64 (x9_1 + 1)))) else (none)) else (none)) = some (r1, r2) := by first | (rw [hji8] at H; exact H) | (simp only [hji8] at H ⊢; exact H)
                (try rw [hji8] at A5)
                have hji8w : (IntKind.i64.wrap (x9_1 - 1)) = ji8 := (i64_w _).trans hji8
                by_cases c9 : 0 ≤ (ji8)
                · rw [if_pos c9] at H
                  have c9b0 : decide (0 ≤ (ji8)) = true := decide_eq_true c9
                  clear c9
                  by_cases c10 : (ji8) < (l0.length : Int)
                  · rw [if_pos c10] at H
                    have c10b0 : decide ((ji8) < (l0.length : Int)) = true := decide_eq_true c10
                    clear c10
                    by_cases c11 : (rd l0 x9_1) > (rd l0 (ji8))
                    · rw [if_pos c11] at H
                      have c11b0 : decide ((rd l0 (ji8)) < (rd l0 x9_1)) = true := decide_eq_true c11
                      clear c11
                      simp only [Option.some.injEq, Prod.mk.injEq] at H
                      obtain ⟨rfl, rfl⟩ := H
                      have p261 : 0 ≤ (x9_1 : Int) := of_decide_eq_true (by first | (with_reducible assumption) | assumption)
                      have q261 : x9_1 < (l0.length : Int) := of_decide_eq_true (by first | (with_reducible assumption) | assumption)
                      obtain ⟨ad261, e261, hx261_0⟩ := Kd.at_int HR0.out x9_1 p261 q261
                      cases e261
                      replace p261 := eq_true p261
                      replace q261 := eq_true q261
                      go_wp2_with (first | ((with_reducible refine gate_callee (f := 57) rfl ?_); refine goesL_ (some 15) rfl rfl Try.func57 (by kernel_rfl) rfl #[.int .i64 (rd l0 x9_1), .int .i64 1, .int .i64 12] rfl (by (try simp only [List.map_toArray, List.map_cons, List.map_nil]); first | done | rfl | (simp only [List.length_drop, List.length_take]; rfl) | (simp; done) | (refine congrArg Value.bool ?_; simp; done) | (refine congrArg (fun z_ => #[Value.bool z_]) ?_; simp; done)) ?_; (with_reducible refine (impl_within.calls (rd l0 x9_1) 1 12 true _ A5.out).mono ?_); rintro e w' ⟨rfl, ⟨nd, rfl⟩⟩; refine ⟨_, rfl, ?_⟩; have p263 : 0 ≤ ((ji8) : Int) := of_decide_eq_true (by first | (with_reducible assumption) | assumption); have q263 : (ji8) < (l0.length : Int) := of_decide_eq_true (by first | (with_reducible assumption) | assumption); obtain ⟨ad263, e263, hx263_0⟩ := Kd.at_int HR0.out (ji8) p263 q263; obtain rfl : ad261 = ad263 := (by injection e263); replace p263 := eq_true p263; replace q263 := eq_true q263))
                      go_ret2
                      exact ⟨by first | rfl | (simp; done) | (simp only [← hji8] <;> (first | rfl | simp)) | (simp [*]; done), by repeat (first | exact Drawn0.refl _ | apply Drawn0.step)⟩
                    · rw [if_neg c11] at H
                      have c11b0 : decide ((rd l0 (ji8)) < (rd l0 x9_1)) = false := decide_eq_false c11
                      clear c11
                      have H' := Aside0.mk H
                      clear H
                      have p261 : 0 ≤ (x9_1 : Int) := of_decide_eq_true (by first | (with_reducible assumption) | assumption)
                      have q261 : x9_1 < (l0.length : Int) := of_decide_eq_true (by first | (with_reducible assumption) | assumption)
                      obtain ⟨ad261, e261, hx261_0⟩ := Kd.at_int HR0.out x9_1 p261 q261
                      cases e261
                      replace p261 := eq_true p261
                      replace q261 := eq_true q261
                      go_wp2_with (first | ((with_reducible refine gate_callee (f := 57) rfl ?_); refine goesL_ (some 15) rfl rfl Try.func57 (by kernel_rfl) rfl #[.int .i64 (rd l0 x9_1), .int .i64 1, .int .i64 12] rfl (by (try simp only [List.map_toArray, List.map_cons, List.map_nil]); first | done | rfl | (simp only [List.length_drop, List.length_take]; rfl) | (simp; done) | (refine congrArg Value.bool ?_; simp; done) | (refine congrArg (fun z_ => #[Value.bool z_]) ?_; simp; done)) ?_; (with_reducible refine (impl_within.calls (rd l0 x9_1) 1 12 true _ A5.out).mono ?_); rintro e w' ⟨rfl, ⟨nd, rfl⟩⟩; refine ⟨_, rfl, ?_⟩; have p263 : 0 ≤ ((ji8) : Int) := of_decide_eq_true (by first | (with_reducible assumption) | assumption); have q263 : (ji8) < (l0.length : Int) := of_decide_eq_true (by first | (with_reducible assumption) | assumption); obtain ⟨ad263, e263, hx263_0⟩ := Kd.at_int HR0.out (ji8) p263 q263; obtain rfl : ad261 = ad263 := (by injection e263); replace p263 := eq_true p263; replace q263 := eq_true q263))
                      go_roundg k1
                      case measure => have := HK1.out; omega
                      case rel => exact ⟨(wrap64 (x4_1 + (rd l0 x9_1))), (wrap64 (x9_1 + 1)), (by first | rfl | (simp; done) | (simp [*]; done)), (by first | rfl | (simp; done) | (simp [*]; done)), H', ⟨by have := HK1.out; omega⟩, by repeat (first | exact Drawn0.refl _ | apply Drawn0.step)⟩
                  · rw [if_neg c10] at H
                    exact absurd H (by simp)
                · rw [if_neg c9] at H
                  exact absurd H (by simp)
              · rw [if_neg c7] at H
                have c7b0 : decide (0 < x9_1) = false := decide_eq_false c7
                clear c7
                have H' := Aside0.mk H
                clear H
                have p261 : 0 ≤ (x9_1 : Int) := of_decide_eq_true (by first | (with_reducible assumption) | assumption)
                have q261 : x9_1 < (l0.length : Int) := of_decide_eq_true (by first | (with_reducible assumption) | assumption)
                obtain ⟨ad261, e261, hx261_0⟩ := Kd.at_int HR0.out x9_1 p261 q261
                cases e261
                replace p261 := eq_true p261
                replace q261 := eq_true q261
                go_wp2_with (first | ((with_reducible refine gate_callee (f := 57) rfl ?_); refine goesL_ (some 15) rfl rfl Try.func57 (by kernel_rfl) rfl #[.int .i64 (rd l0 x9_1), .int .i64 1, .int .i64 12] rfl (by (try simp only [List.map_toArray, List.map_cons, List.map_nil]); first | done | rfl | (simp only [List.length_drop, List.length_take]; rfl) | (simp; done) | (refine congrArg Value.bool ?_; simp; done) | (refine congrArg (fun z_ => #[Value.bool z_]) ?_; simp; done)) ?_; (with_reducible refine (impl_within.calls (rd l0 x9_1) 1 12 true _ A5.out).mono ?_); rintro e w' ⟨rfl, ⟨nd, rfl⟩⟩; refine ⟨_, rfl, ?_⟩))
                go_roundg k1
                case measure => have := HK1.out; omega
                case rel => exact ⟨(wrap64 (x4_1 + (rd l0 x9_1))), (wrap64 (x9_1 + 1)), (by first | rfl | (simp; done) | (simp [*]; done)), (by first | rfl | (simp; done) | (simp [*]; done)), H', ⟨by have := HK1.out; omega⟩, by repeat (first | exact Drawn0.refl _ | apply Drawn0.step)⟩
            · replace c6 := Bool.eq_false_iff.mpr c6
              subst c6
              have H1 : (some (0, false)) = some (r1, r2) := by rw [if_neg (show ¬ (false = true) by decide)] at H; exact H
              clear H
              have H := H1
              clear H1
              simp only [Option.some.injEq, Prod.mk.injEq] at H
              obtain ⟨rfl, rfl⟩ := H
              have p261 : 0 ≤ (x9_1 : Int) := of_decide_eq_true (by first | (with_reducible assumption) | assumption)
              have q261 : x9_1 < (l0.length : Int) := of_decide_eq_true (by first | (with_reducible assumption) | assumption)
              obtain ⟨ad261, e261, hx261_0⟩ := Kd.at_int HR0.out x9_1 p261 q261
              cases e261
              replace p261 := eq_true p261
              replace q261 := eq_true q261
              go_wp2_with (first | ((with_reducible refine gate_callee (f := 57) rfl ?_); refine goesL_ (some 15) rfl rfl Try.func57 (by kernel_rfl) rfl #[.int .i64 (rd l0 x9_1), .int .i64 1, .int .i64 12] rfl (by (try simp only [List.map_toArray, List.map_cons, List.map_nil]); first | done | rfl | (simp only [List.length_drop, List.length_take]; rfl) | (simp; done) | (refine congrArg Value.bool ?_; simp; done) | (refine congrArg (fun z_ => #[Value.bool z_]) ?_; simp; done)) ?_; (with_reducible refine (impl_within.calls (rd l0 x9_1) 1 12 false _ A5.out).mono ?_); rintro e w' ⟨rfl, ⟨nd, rfl⟩⟩; refine ⟨_, rfl, ?_⟩))
              go_ret2
              exact ⟨by first | rfl | (simp; done) | (simp [*]; done), by repeat (first | exact Drawn0.refl _ | apply Drawn0.step)⟩
          · rw [if_neg c4] at H
            exact absurd H (by simp)
        · rw [if_neg c3] at H
          exact absurd H (by simp)
      · rw [if_neg c2] at H
        have c2b0 : decide (x9_1 < (l0.length : Int)) = false := decide_eq_false c2
        clear c2
        by_cases c12 : (l0.length : Int) ≤ 12
        · rw [if_pos c12] at H
          have c12b0 : decide ((l0.length : Int) ≤ 12) = true := decide_eq_true c12
          have c12b1 : decide (l0.length ≤ 12) = true := decide_eq_true (by omega)
          clear c12
          replace H := Option.bind_eq_some_iff.mp H
          obtain ⟨t264, A130, H⟩ := H
          replace H : (some (x4_1, t264)) = some (r1, r2) := H
          have A13 := Aside0.mk A130
          clear A130
          simp only [Option.some.injEq, Prod.mk.injEq] at H
          obtain ⟨rfl, rfl⟩ := H
          go_wp2_with (first | (go_at_call 81; (with_reducible refine (impl_areWires.calls x4_1 t264 _ A13.out).mono ?_); rintro e w' ⟨rfl, ⟨nd, rfl⟩⟩))
          go_ret2
          exact ⟨by first | rfl | (simp; done) | (simp [*]; done), by repeat (first | exact Drawn0.refl _ | apply Drawn0.step)⟩
        · rw [if_neg c12] at H
          have c12b0 : decide ((l0.length : Int) ≤ 12) = false := decide_eq_false c12
          have c12b1 : decide (l0.length ≤ 12) = false := decide_eq_false (by omega)
          clear c12
          simp only [Option.some.injEq, Prod.mk.injEq] at H
          obtain ⟨rfl, rfl⟩ := H
          go_wp2
          go_ret2
          exact ⟨by first | rfl | (simp; done) | (simp [*]; done), by repeat (first | exact Drawn0.refl _ | apply Drawn0.step)⟩

/-! ### slices_Clone_int_int: function 88 -/
def slices_Clone_int_int.f (l0 : List Int) : Option (List Int) := if l0.length < 17592186044416 then some l0 else none
theorem slices_Clone_int_int.none_ {w : World} {n : Nat} {l0 : List Int} (h : Kd.C (Kd.int .i64) w none n l0) : n = 0 := by
  rcases Nat.eq_zero_or_pos n with e | e
  · exact e
  · obtain ⟨ad, h1, _⟩ := h.2.2 e
    cases h1
set_option maxRecDepth 100000 in
theorem slices_Clone_int_int.calls (A0 : Option Addr) (c0 : Nat) (l0 : List Int) (r : List Int) (w : World) (hr0 : Kd.C (Kd.int .i64) w A0 l0.length l0) (hc0 : l0.length ≤ c0) (h : slices_Clone_int_int.f l0 = some r) :
    Calls Try.prog 88 #[.slice A0 l0.length c0] w fun e w' => ∃ v0_ : Value, e = .returned (v0_) ∧ Kd.R (Kd.int .i64) 3 w' w.heap.size (fun _ => True) v0_ r ∧ Below w.heap.size w w' := by
  unfold slices_Clone_int_int.f at h
  split at h
  case isFalse => cases h
  rename_i hlim
  obtain rfl := Option.some.inj h
  have LM := Aside0.mk hlim
  have HR0 := Aside0.mk hr0
  have HC0 := Aside0.mk hc0
  have HB := Aside0.mk (Below.refl w.heap.size w)
  clear h hlim hr0 hc0
  cases A0 with
  | none =>
    have h0 := slices_Clone_int_int.none_ HR0.out
    obtain rfl := List.eq_nil_of_length_eq_zero h0
    clear h0
    have he : ∀ w : World, (binOp .eql 22 (.slice none 0 c0) (.slice none 0 0)).run Try.prog w = .ok (.bool true) w := fun _ => rfl
    go_enter Try.func88, Try.ntmps88
    go_wp2
    go_ret
    exact ⟨_, rfl, Kd.R_nil _ _ _ _ _, HB.out⟩
  | some ad =>
    have he : ∀ w : World, (binOp .eql 22 (.slice (some ad) l0.length c0) (.slice none 0 0)).run Try.prog w = .ok (.bool false) w := fun _ => rfl
    go_enter Try.func88, Try.ntmps88
    go_wp2_with (first | ((with_reducible refine gate_dst (N := 5) rfl ?_); refine Kd.R_lit (Kd.int .i64) _ 3 ?hg (N := 5) ?hd (xs := ([] : List Int)) (inner := []) (ok := fun _ => True) (okp := fun _ => True) ?hr ?hp (fun _ hk => hk) trivial (Below.refl _ _) (Nat.le_refl _) (by simp) ?_; (case hd => rfl); (case hg => rfl); (case hr => first | (go_simp; done) | (go_simp; rfl)); (case hp => exact (Reps.none _ _)); intro v1 w3 ho4 hb hg_ hnew_; clear hg_ hnew_; have n0_ := Aside0.mk (Kd.R_lower ho4 (below_size (by repeat (first | (with_reducible first | exact HB.out | apply below_alloc | apply pw_below_drewN | apply below_drew1) | exact HB.out)))); have n1_ := Aside0.mk (below_step (by repeat (first | (with_reducible first | exact HB.out | apply below_alloc | apply pw_below_drewN | apply below_drew1) | exact HB.out)) hb); clear HB; have HO1 := n0_; have HB := n1_; clear n0_ n1_; clear hb ho4) | ((with_reducible refine gate_builtin (b := .append) (xs := #[.tmp 5, .tmp 6]) rfl ?_); at_builtin; refine Kd.R_append_rows (Kd.int .i64) (w0 := w) w.heap.size rfl (.tmp 5) (.tmp 6) 22 3 (.int .i64 0) 8 rfl Try.underlying22 info3 rfl (by decide) (by omega) v1 [] l0 _ _ _ (fun _ => True) (fun _ => False) rfl rfl ?aO ?aR (fun _ _ h => h) (fun _ h => h.elim) ?aF ?aB ?aS ?aL ?_; (case aR => repeat (first | exact (Kd.C_below HR0.out HB.out) | (with_reducible refine Kd.C_alloc ?_ _) | (with_reducible refine Kd.C_drewN ?_ _) | (with_reducible refine Kd.C_drew ?_))); (case aB => exact (by repeat (first | (with_reducible first | exact HB.out | apply below_alloc | apply pw_below_drewN | apply below_drew1) | exact HB.out))); (case aF => exact (fun _ _ => trivial)); (case aO => exact (by (with_reducible repeat (first | apply Kd.R_alloc | apply Kd.R_drewN | apply Kd.R_drew)); exact HO1.out)); (case aS => exact (below_size (by repeat (first | (with_reducible first | exact HB.out | apply below_alloc | apply pw_below_drewN | apply below_drew1) | exact HB.out)))); (case aL => have := LM.out; simp only [List.length_nil]; omega); intro v2 w5 ho hb hg hat; rw [List.nil_append] at ho; have n0_ := Aside0.mk (hb); have n1_ := Aside0.mk (ho); clear HB; clear HO1; have HB := n0_; have HO2 := n1_; clear n0_ n1_; clear ho hb hg hat))
    go_ret
    exact ⟨_, rfl, by (with_reducible repeat (first | apply Kd.R_alloc | apply Kd.R_drewN | apply Kd.R_drew)); exact HO2.out, by repeat (first | (with_reducible first | exact HB.out | apply below_alloc | apply pw_below_drewN | apply below_drew1) | exact HB.out)⟩


-- NOT PRINTED: function 87 (impl_groupings_1)

/-! ### impl_groupings: function 47 -/
def impl_groupings.T6 : Bool × List (List Nat × List Nat) := (true, [([], []), ([], []), ([1], [1]), ([], []), ([3], [3]), ([2, 4, 2], [2, 4]), ([], []), ([], []), ([7], [7]), ([6, 8], [6, 8]), ([0, 5, 9, 5], [0, 5, 9]), ([10], [10])])
def impl_groupings.B6 : List Nat := [0, 0, 2, 0, 8, 30, 0, 0, 128, 448, 1023, 2047]
theorem impl_groupings.tab6 : rtab .any (opsOf Try.f87 6) = impl_groupings.T6 := by kernel_rfl
theorem impl_groupings.bits6 : waitsOk impl_groupings.T6.2 impl_groupings.B6 = true := by kernel_rfl
/-- Old blocks are as they were, but for those of K. -/
structure impl_groupings.KO (K : Nat → Prop) (w w' : World) : Prop where
  os : w'.os = w.os
  tape : w'.tape = w.tape
  output : w'.output = w.output
  kept : Kept w w' K
theorem impl_groupings.KO.refl (K : Nat → Prop) (w : World) : impl_groupings.KO K w w := ⟨rfl, rfl, rfl, Kept.refl _ _⟩
theorem impl_groupings.KO.trans {K : Nat → Prop} {a b c : World} (h : impl_groupings.KO K a b) (k : impl_groupings.KO K b c) : impl_groupings.KO K a c :=
  ⟨k.os.trans h.os, k.tape.trans h.tape, k.output.trans h.output, h.kept.then_ k.kept (fun _ h => .inl h)⟩
theorem impl_groupings.KO.below {K : Nat → Prop} {w w' : World} (h : Below w.heap.size w w') : impl_groupings.KO K w w' := ⟨h.os, h.tape, h.output, Kept.of_below h _⟩
theorem impl_groupings.KO.cell {K : Nat → Prop} {w w' : World} (h : impl_groupings.KO K w w') {a : Addr} {v : Value} (hc : w.cell? a = some v) (hk : ¬ K a.block) : w'.cell? a = some v := by
  have hlt := World.block_lt_of_cell? w a hc
  have := h.kept.2 a.block hlt hk
  simpa [World.cell?, this] using hc
theorem impl_groupings.KO.set {K : Nat → Prop} {p : Addr} (w : World) (hp : K p.block) (u : Value) : impl_groupings.KO K w (w.setCell p u) := ⟨rfl, rfl, rfl, (Kept.refl w K).setCell (.inl hp) u⟩
/-- One round after the other, till one says false. -/
def impl_groupings.runK {σ : Type} (f : Nat → σ → Option (σ × Bool)) : List Nat → σ → Option (σ × Bool)
  | [], s => some (s, true)
  | k :: ks, s => (f k s).bind fun r => if r.2 = true then impl_groupings.runK f ks r.1 else some r
/-- All groupings that begin with a list, d wires more. -/
def impl_groupings.walk {σ : Type} (step : σ → List Int → Option (σ × Bool)) : Nat → List Int → Nat → σ → Option (σ × Bool)
  | 0, gs, _, s => step s gs
  | d + 1, gs, many, s => impl_groupings.runK (fun k s => impl_groupings.walk step d (gs ++ [(k : Int)]) (max many (k + 1)) s) (List.range (many + 1)) s
theorem impl_groupings.runK_mono {σ : Type} {f g : Nat → σ → Option (σ × Bool)} (h : ∀ k s, LeO (f k s) (g k s)) : ∀ ks s, LeO (impl_groupings.runK f ks s) (impl_groupings.runK g ks s)
  | [], s => LeO.refl _
  | k :: ks, s => LeO.bind (h k s) (fun _ => LeO.ite (impl_groupings.runK_mono h ks _) (LeO.refl _))
theorem impl_groupings.walk_mono {σ : Type} {f g : σ → List Int → Option (σ × Bool)} (h : ∀ s gs, LeO (f s gs) (g s gs)) : ∀ d gs many s, LeO (impl_groupings.walk f d gs many s) (impl_groupings.walk g d gs many s)
  | 0, gs, many, s => h s gs
  | d + 1, gs, many, s => impl_groupings.runK_mono (fun k s => impl_groupings.walk_mono h d _ _ s) _ _
/-- What is asked of the function that is called for each grouping. -/
def impl_groupings.Each {σ : Type} (step : σ → List Int → Option (σ × Bool)) (Inv : σ → World → Prop) (K : Nat → Prop) (B G : Nat) (cb : Array Value) : Prop :=
  ∀ s gs s' b v W, Inv s W → Kd.R (Kd.int .i64) 3 W B (fun _ => True) v gs → B ≤ W.heap.size → step s gs = some (s', b) →
    Calls Try.prog G (#[v] ++ cb) W fun e w' => e = .returned (.bool b) ∧ Inv s' w' ∧ impl_groupings.KO K W w'
structure impl_groupings.Frames (wires : Nat) (G : Nat) (cb : Array Value) (bw be bc : Nat) (W : World) : Prop where
  fw : W.cell? ⟨bw, 0, none⟩ = some (.int .i64 (wires : Int))
  fe : W.cell? ⟨be, 0, none⟩ = some (.func (.func G) #[] cb)
  fc : W.cell? ⟨bc, 0, none⟩ = some (.func (.func 87) #[] #[.pointer (some ⟨bw, 0, none⟩), .pointer (some ⟨be, 0, none⟩), .pointer (some ⟨bc, 0, none⟩)])
theorem impl_groupings.Frames.ko {wires G : Nat} {cb : Array Value} {bw be bc : Nat} {K : Nat → Prop} {W W' : World} (h : impl_groupings.Frames wires G cb bw be bc W) (hw : ¬ K bw) (he : ¬ K be) (hc : ¬ K bc) (k : impl_groupings.KO K W W') : impl_groupings.Frames wires G cb bw be bc W' :=
  ⟨k.cell h.fw hw, k.cell h.fe he, k.cell h.fc hc⟩
set_option maxHeartbeats 2000000 in
set_option maxRecDepth 100000 in
theorem impl_groupings.choose {σ : Type} (step : σ → List Int → Option (σ × Bool)) (Inv : σ → World → Prop) (K : Nat → Prop) (B G : Nat) (cb : Array Value) (hE : impl_groupings.Each step Inv K B G cb) (eg : ∀ args w, (callFunc G args).run Try.prog w = .ok (.enter G args) w)
    (hI : ∀ s W W', Inv s W → Below W.heap.size W W' → Inv s W') (hKB : ∀ k, K k → k < B) (wires : Nat) (hwi : wires ≤ 1000) (bw be bc : Nat) (nw : ¬ K bw) (ne : ¬ K be) (nc : ¬ K bc) :
    ∀ (d : Nat) (gs : List Int) (many : Nat) (s s' : σ) (b : Bool) (v : Value) (W : World), gs.length + d = wires → many ≤ gs.length → impl_groupings.Frames wires G cb bw be bc W → Inv s W → Kd.R (Kd.int .i64) 3 W B (fun _ => True) v gs → B ≤ W.heap.size → impl_groupings.walk step d gs many s = some (s', b) →
      Calls Try.prog 87 #[v, .int .i64 (many : Int), .pointer (some ⟨bw, 0, none⟩), .pointer (some ⟨be, 0, none⟩), .pointer (some ⟨bc, 0, none⟩)] W fun e w' => e = .returned (.bool b) ∧ Inv s' w' ∧ impl_groupings.KO K W w' := by
  intro d
  induction d with
  | zero =>
    intro gs many s s' b v W hd hm hF hi hR hB hw
    obtain ⟨A, c, rfl⟩ := Kd.R_slice hR
    obtain ⟨fw, fe, fc⟩ := hF
    have h0 : ((gs.length : Int) == (wires : Int)) = true := beq_iff_eq.mpr (by omega)
    have HR := Aside0.mk hR
    have HI := Aside0.mk hi
    have HBS := Aside0.mk hB
    have HW := Aside0.mk hw
    have FC := Aside0.mk fc
    clear hR hi hB hw fc hd
    go_enter Try.func87, Try.ntmps87
    go_wp2_with fail
    refine (hE s gs s' b _ W HI.out HR.out HBS.out HW.out).mono ?_
    rintro e w' ⟨rfl, hi', hk⟩
    go_wp2
    go_ret
    exact ⟨rfl, hi', hk⟩
  | succ d ih =>
    intro gs many s s' b v W hd hm hF hi hR hB hw
    obtain ⟨A, c, rfl⟩ := Kd.R_slice hR
    have h0 : ((gs.length : Int) == (wires : Int)) = false := beq_eq_false_iff_ne.mpr (by omega)
    have hup : wrap64 ((many : Int) + 1) = (many : Int) + 1 := by unfold wrap64; omega
    have hup2 : IntKind.i64.wrap ((many : Int) + 1) = (many : Int) + 1 := (i64_w _).trans hup
    unfold impl_groupings.walk at hw
    have fw := hF.fw
    have fe := hF.fe
    have HF := Aside0.mk hF
    have HR := Aside0.mk hR
    have HI := Aside0.mk hi
    have HBS := Aside0.mk hB
    have HW := Aside0.mk hw
    have HD := Aside0.mk hd
    have HM := Aside0.mk hm
    clear hR hi hB hw hd hF
    go_enter Try.func87, Try.ntmps87
    go_wp2
    clear fw fe
    go_loopg [18] (many + 1) (fun gg v18 wr => ∃ (x : Nat) (sx : σ), v18 = .int .i64 (x : Int) ∧ Aside0 (x ≤ many + 1 ∧ many + 1 - x ≤ gg) ∧ Aside0 (impl_groupings.runK (fun k s => impl_groupings.walk step d (gs ++ [(k : Int)]) (max many (k + 1)) s) ((List.range (many + 1)).drop x) sx = some (s', b)) ∧ Aside0 (Inv sx wr) ∧ Aside0 (impl_groupings.KO K W wr))
    case atStart => exact ⟨0, s, rfl, ⟨by omega, by omega⟩, ⟨by rw [List.drop_zero]; exact HW.out⟩, HI, ⟨impl_groupings.KO.refl _ _⟩⟩
    case round =>
      clear HW HI
      obtain ⟨x, sx, rfl, HX, HRUN, HI, HKO⟩ := hrel
      by_cases hx : x < many + 1
      · have hdr : (List.range (many + 1)).drop x = x :: (List.range (many + 1)).drop (x + 1) := by
          rw [List.drop_eq_getElem_cons (by simpa using hx)]
          simp
        have hrun := HRUN.out
        rw [hdr] at hrun
        unfold impl_groupings.runK at hrun
        obtain ⟨⟨s1, b1⟩, hw1, hrest⟩ := Option.bind_eq_some_iff.mp hrun
        have hx1 : decide ((x : Int) < (many : Int) + 1) = true := decide_eq_true (by omega)
        have hx2 : ((x : Int) < (many : Int) + 1) = True := eq_true (by omega)
        have hxu : wrap64 ((x : Int) + 1) = (x : Int) + 1 := by have := HD.out; have := HM.out; unfold wrap64; omega
        have hxu2 : IntKind.i64.wrap ((x : Int) + 1) = (x : Int) + 1 := (i64_w _).trans hxu
        obtain ⟨mz, emz⟩ : ∃ mz : Nat, mz = max many (x + 1) := ⟨_, rfl⟩
        have hmx : (if (many : Int) < (x : Int) + 1 then (x : Int) + 1 else (many : Int)) = (mz : Int) := by
          rw [emz, Nat.max_def]
          by_cases hq : many ≤ x + 1
          · rw [if_pos hq]
            by_cases hq2 : (many : Int) < (x : Int) + 1
            · rw [if_pos hq2]; omega
            · rw [if_neg hq2]; omega
          · rw [if_neg hq, if_neg (by omega)]
        have EMZ := Aside0.mk emz
        have F1 := HF.out.ko nw ne nc HKO.out
        have fc := F1.fc
        have R1 := Aside0.mk (Kd.R_kept (Kd.R_mono (ok' := fun k => ¬ K k) (Kd.R_bound HR.out) (fun k hk hkk => Nat.lt_irrefl _ (Nat.lt_of_lt_of_le (hKB k hkk) hk.2.1))) HKO.out.kept (fun k hk => hk))
        have HW1 := Aside0.mk (show impl_groupings.walk step d (gs ++ [(x : Int)]) mz sx = some (s1, b1) by rw [emz]; exact hw1)
        have HREST := Aside0.mk hrest
        have HF1 := Aside0.mk F1
        have HXX := Aside0.mk hx
        clear hdr hrun hw1 hrest F1 HRUN hx emz
        go_wp2
        have BD := Aside0.mk (below_drew1 (Below.refl wr.heap.size wr))
        refine start_ (n := 12) (S := fun w' => w'.cell? ⟨bc, 0, none⟩ = some (.func (.func 87) #[] #[.pointer (some ⟨bw, 0, none⟩), .pointer (some ⟨be, 0, none⟩), .pointer (some ⟨bc, 0, none⟩)])) (ds := []) #[false, false, false, false, false, false, false, false, false, false, false, false] (by kernel_rfl) rfl rfl fc (fun hHeld => ?_); refine with_tabW impl_groupings.tab6 impl_groupings.bits6 (fun HT_ HW_ => ?_)
        generalize wr.drew = wd at BD hHeld ⊢
        refine pure_ (i := 1) (N := some 22) (v := ?_) (a' := ?_) #[false, true, false, false, false, false, false, false, false, false, false, false] rfl rfl (any_of HT_.out (by kernel_rfl)) (fun _ _ _ h => h) (Or.inl ⟨by rfl, ?_⟩) ?_ ?_
        rotate_left
        · intro w'
          go_simp
          with_reducible rfl
        rotate_left
        · simp only [Act.put, List.setIfInBounds_toArray, List.set_cons_zero, List.set_cons_succ, i64_w, i32_w]
          rfl
        refine pure_ (i := 3) (N := some 24) (v := ?_) (a' := ?_) #[false, true, false, true, false, false, false, false, false, false, false, false] rfl rfl (any_of HT_.out (by kernel_rfl)) (fun _ _ _ h => h) (Or.inl ⟨by rfl, ?_⟩) ?_ ?_
        rotate_left
        · intro w'
          go_simp
          with_reducible rfl
        rotate_left
        · simp only [Act.put, List.setIfInBounds_toArray, List.set_cons_zero, List.set_cons_succ, i64_w, i32_w]
          rfl
        refine pure_ (i := 6) (N := some 27) (v := ?_) (a' := ?_) #[false, true, false, true, false, false, true, false, false, false, false, false] rfl rfl (any_of HT_.out (by kernel_rfl)) (fun _ _ _ h => h) (Or.inl ⟨by rfl, ?_⟩) ?_ ?_
        rotate_left
        · intro w'
          go_simp
          with_reducible rfl
        rotate_left
        · simp only [Act.put, List.setIfInBounds_toArray, List.set_cons_zero, List.set_cons_succ, i64_w, i32_w]
          rfl
        refine pure_ (i := 7) (N := some 28) (v := ?_) (a' := ?_) #[false, true, false, true, false, false, true, true, false, false, false, false] rfl rfl (any_of HT_.out (by kernel_rfl)) (fun _ _ _ h => h) (Or.inl ⟨by rfl, ?_⟩) ?_ ?_
        rotate_left
        · intro w'
          go_simp
          with_reducible rfl
        rotate_left
        · simp only [Act.put, List.setIfInBounds_toArray, List.set_cons_zero, List.set_cons_succ, i64_w, i32_w]
          rfl
        refine pure_ (i := 8) (N := some 29) (v := ?_) (a' := ?_) #[false, true, false, true, false, false, true, true, true, false, false, false] rfl rfl (any_of HT_.out (by kernel_rfl)) (fun _ _ _ h => h) (Or.inl ⟨by rfl, ?_⟩) ?_ ?_
        rotate_left
        · intro w'
          go_simp
          with_reducible rfl
        rotate_left
        · simp only [Act.put, List.setIfInBounds_toArray, List.set_cons_zero, List.set_cons_succ, i64_w, i32_w]
          rfl
        refine pure_ (i := 9) (N := some 30) (v := ?_) (a' := ?_) #[false, true, false, true, false, false, true, true, true, true, false, false] rfl rfl (any_of HT_.out (by kernel_rfl)) (fun _ _ _ h => h) (Or.inl ⟨by rfl, ?_⟩) ?_ ?_
        rotate_left
        · intro w'
          go_simp
          with_reducible rfl
        rotate_left
        · simp only [Act.put, List.setIfInBounds_toArray, List.set_cons_zero, List.set_cons_succ, i64_w, i32_w, hmx]
          rfl
        refine take_ (i := 0) (N := some 21) (v := ?_) (a' := ?_) #[true, true, false, true, false, false, true, true, true, true, false, false] rfl rfl (take_ofW HT_.out HW_.out (by kernel_rfl)) (fun _ _ _ h => h) (Or.inl ⟨by rfl, ?_⟩) hHeld ?_ ?_
        rotate_left
        · rintro w' s0
          go_simp
          with_reducible rfl
        rotate_left
        · simp only [Act.put, List.setIfInBounds_toArray, List.set_cons_zero, List.set_cons_succ, i64_w, i32_w]
          rfl
        refine join_ (σ := Value × Value) 3 #[true, true, true, true, true, false, true, true, true, true, false, false] (fun s_ => [(23, s_.1), (25, s_.2)]) (fun s_ w' => (w'.cell? ⟨bc, 0, none⟩ = some (.func (.func 87) #[] #[.pointer (some ⟨bw, 0, none⟩), .pointer (some ⟨be, 0, none⟩), .pointer (some ⟨bc, 0, none⟩)])) ∧ Kd.R (Kd.int .i64) 3 w' wr.heap.size (fun _ => True) s_.1 gs ∧ (∃ (A25 : Option Addr) (c25 : Nat), s_.2 = .slice A25 1 c25 ∧ Kd.C (Kd.int .i64) w' A25 1 [(x : Int)]) ∧ Below wr.heap.size wr w') ?_ ?_
        rotate_left
        · intro hCont
          refine two_ (i := 2) (j := 4) (Ni := some 23) (Nj := some 25) #[true, true, true, true, false, false, true, true, true, true, false, false] #[true, true, false, true, true, false, true, true, true, true, false, false] rfl rfl rfl rfl (two_of HT_.out (by kernel_rfl)) (by decide) (by decide) (fun K hK => ?_) (fun K hK => ?_)
          · skip
            refine goes_ Try.func88 (by kernel_rfl) rfl #[.slice A gs.length c] (by rfl) rfl rfl (by (try simp only [List.map_toArray, List.map_cons, List.map_nil]); rfl) ?_
            refine (slices_Clone_int_int.calls A c gs gs wd (Kd.C_below (Kd.R_reads' R1.out).2.2 BD.out) (Kd.R_reads' R1.out).2.1 (by unfold slices_Clone_int_int.f; rw [if_pos (by have := HD.out; omega)])).mono ?_
            rintro e w2 ⟨v23, rfl, hv, hb⟩
            refine ⟨_, rfl, ?_⟩
            have B2 := Aside0.mk (below_step BD.out hb)
            have S2 := (hb.cell (World.block_lt_of_cell? wd _ hHeld)).trans hHeld
            have R2 := Aside0.mk (Kd.R_lower hv BD.out.size)
            clear hv hb
            refine hK.out _ _ S2 (fun hHeld => ?_)
            clear hK K
            refine norm_ (a' := ?_) ?_ ?_
            rotate_left
            · show Act.put _ (some 23) _ = _
              simp only [Act.put, List.setIfInBounds_toArray, List.set_cons_zero, List.set_cons_succ, i64_w, i32_w]
              rfl
            refine one_ (i := 4) (N := some 25) #[true, true, true, true, true, false, true, true, true, true, false, false] rfl rfl (one_of HT_.out (by kernel_rfl)) (by decide) (fun K hK => ?_)
            refine Kd.R_lit_step (Kd.int .i64) _ 3 ?hg (N := 25) ?hd (xs := [(x : Int)]) (inner := [.int .i64 (x : Int)]) (ok := fun _ => True) (okp := fun _ => True) ?hr ?hp (fun _ hk => hk) trivial (Below.refl _ _) (Nat.le_refl _) (by simp) ?_; (case hd => rfl); (case hg => rfl); (case hr => first | (go_simp; done) | (go_simp; rfl)); (case hp => exact (Reps.one (show Kd.M (Kd.int .i64) _ _ _ (x : Int) [.int .i64 (x : Int)] from rfl) (Reps.none _ _)))
            intro v25 w3 ho hb hg_ hnew_
            clear hg_ hnew_
            have B3 := below_step B2.out hb
            have S3 := (hb.cell (World.block_lt_of_cell? w2 _ hHeld)).trans hHeld
            have R3 := Kd.R_below R2.out hb
            obtain ⟨A25, c25, rfl⟩ := Kd.R_slice ho
            have C3 := (Kd.R_reads' ho).2.2
            refine hK.out _ _ S3 (fun hHeld => ?_)
            clear hK K
            refine norm_ (a' := ?_) ?_ ?_
            rotate_left
            · show Act.put _ (some 25) _ = _
              simp only [Act.put, List.setIfInBounds_toArray, List.set_cons_zero, List.set_cons_succ, i64_w, i32_w]
              rfl
            exact norm_ (by simp only [putAll, Act.put, List.setIfInBounds_toArray, List.set_cons_zero, List.set_cons_succ]; rfl) (hCont (v23, .slice A25 1 c25) _ ⟨hHeld, R3, ⟨A25, c25, rfl, C3⟩, B3⟩)
          · skip
            refine Kd.R_lit_step (Kd.int .i64) _ 3 ?hg (N := 25) ?hd (xs := [(x : Int)]) (inner := [.int .i64 (x : Int)]) (ok := fun _ => True) (okp := fun _ => True) ?hr ?hp (fun _ hk => hk) trivial (Below.refl _ _) (Nat.le_refl _) (by simp) ?_; (case hd => rfl); (case hg => rfl); (case hr => first | (go_simp; done) | (go_simp; rfl)); (case hp => exact (Reps.one (show Kd.M (Kd.int .i64) _ _ _ (x : Int) [.int .i64 (x : Int)] from rfl) (Reps.none _ _)))
            intro v25 w2 ho hb hg_ hnew_
            clear hg_ hnew_
            have B2 := Aside0.mk (below_step BD.out hb)
            have S2 := (hb.cell (World.block_lt_of_cell? wd _ hHeld)).trans hHeld
            obtain ⟨A25, c25, rfl⟩ := Kd.R_slice ho
            have C2 := Aside0.mk (Kd.R_reads' ho).2.2
            clear ho hb
            refine hK.out _ _ S2 (fun hHeld => ?_)
            clear hK K
            refine norm_ (a' := ?_) ?_ ?_
            rotate_left
            · show Act.put _ (some 25) _ = _
              simp only [Act.put, List.setIfInBounds_toArray, List.set_cons_zero, List.set_cons_succ, i64_w, i32_w]
              rfl
            refine one_ (i := 2) (N := some 23) #[true, true, true, true, true, false, true, true, true, true, false, false] rfl rfl (one_of HT_.out (by kernel_rfl)) (by decide) (fun K hK => ?_)
            refine goes_ Try.func88 (by kernel_rfl) rfl #[.slice A gs.length c] (by rfl) rfl rfl (by (try simp only [List.map_toArray, List.map_cons, List.map_nil]); rfl) ?_
            refine (slices_Clone_int_int.calls A c gs gs w2 (Kd.C_below (Kd.R_reads' R1.out).2.2 B2.out) (Kd.R_reads' R1.out).2.1 (by unfold slices_Clone_int_int.f; rw [if_pos (by have := HD.out; omega)])).mono ?_
            rintro e w3 ⟨v23, rfl, hv, hb⟩
            refine ⟨_, rfl, ?_⟩
            have B3 := below_step B2.out hb
            have S3 := (hb.cell (World.block_lt_of_cell? w2 _ hHeld)).trans hHeld
            have R3 := Kd.R_lower hv B2.out.size
            have C3 := Kd.C_below C2.out hb
            refine hK.out _ _ S3 (fun hHeld => ?_)
            clear hK K
            refine norm_ (a' := ?_) ?_ ?_
            rotate_left
            · show Act.put _ (some 23) _ = _
              simp only [Act.put, List.setIfInBounds_toArray, List.set_cons_zero, List.set_cons_succ, i64_w, i32_w]
              rfl
            exact norm_ (by simp only [putAll, Act.put, List.setIfInBounds_toArray, List.set_cons_zero, List.set_cons_succ]; rfl) (hCont (v23, .slice A25 1 c25) _ ⟨hHeld, R3, ⟨A25, c25, rfl, C3⟩, B3⟩)
        rintro ⟨v23, v25⟩ w3 ⟨hHeld, R3, ⟨A25, c25, rfl, C3⟩, B3⟩
        have HR3 := Aside0.mk R3
        have HC3 := Aside0.mk C3
        have HB3 := Aside0.mk B3
        clear R3 C3 B3
        refine norm_ (by simp only [putAll, Act.put, List.setIfInBounds_toArray, List.set_cons_zero, List.set_cons_succ]; rfl) ?_
        refine one_ (i := 5) (N := some 26) #[true, true, true, true, true, true, true, true, true, true, false, false] rfl rfl (one_of HT_.out (by kernel_rfl)) (by decide) (fun K hK => ?_)
        refine Kd.R_append_rows_step (Kd.int .i64) (w0 := wr) wr.heap.size (by rfl) (.tmp 23) (.tmp 25) 22 3 (.int .i64 0) 8 rfl Try.underlying22 info3 rfl (by decide) (by omega) v23 gs [(x : Int)] A25 1 c25 (fun _ => True) (fun _ => False) rfl rfl HR3.out HC3.out (fun _ _ h => h) (fun _ h => h.elim) (fun _ _ => trivial) HB3.out HB3.out.size (by have := HD.out; omega) ?_
        intro v26 w4 ho hb hg hat
        have B4 := Aside0.mk hb
        have R4 := Aside0.mk ho
        have S4 := (hb.cell (World.block_lt_of_cell? wr _ fc)).trans fc
        clear ho hb hg hat HR3 HC3 HB3
        refine hK.out _ _ S4 (fun hHeld => ?_)
        clear hK K
        refine norm_ (a' := ?_) ?_ ?_
        rotate_left
        · show Act.put _ (some 26) _ = _
          simp only [Act.put, List.setIfInBounds_toArray, List.set_cons_zero, List.set_cons_succ, i64_w, i32_w]
          rfl
        refine one_ (i := 10) (N := some 31) #[true, true, true, true, true, true, true, true, true, true, true, false] rfl rfl (one_of HT_.out (by kernel_rfl)) (by decide) (fun K hK => ?_)
        refine call_ 87 #[v26, .int .i64 (mz : Int), .pointer (some ⟨bw, 0, none⟩), .pointer (some ⟨be, 0, none⟩), .pointer (some ⟨bc, 0, none⟩)] (by rfl) rfl (by have he := enters_ (P := Try.prog) Try.func87 (by rfl) rfl #[v26, .int .i64 (mz : Int), .pointer (some ⟨bw, 0, none⟩), .pointer (some ⟨be, 0, none⟩), .pointer (some ⟨bc, 0, none⟩)] w4; unfold execOp; simp [resolve, Deferred.ofValue, invoke, Act.eval, he]) ?_
        refine (ih (gs ++ [(x : Int)]) mz sx s1 b1 v26 w4 (by have := HD.out; simp; omega) (by have := HM.out; have := HXX.out; have := EMZ.out; simp; omega) (HF1.out.ko nw ne nc (impl_groupings.KO.below B4.out)) (hI _ _ _ HI.out B4.out) (Kd.R_lower R4.out (Nat.le_trans HBS.out HKO.out.kept.1)) (Nat.le_trans HBS.out (Nat.le_trans HKO.out.kept.1 B4.out.size)) HW1.out).mono ?_
        rintro e w5 ⟨rfl, hi5, hk5⟩
        have I5 := Aside0.mk hi5
        have K5 := Aside0.mk (HKO.out.trans ((impl_groupings.KO.below B4.out).trans hk5))
        have S5 := hk5.cell hHeld nc
        clear hi5 hk5
        refine ⟨_, rfl, ?_⟩
        refine hK.out _ _ S5 (fun hHeld => ?_)
        clear hK K
        refine norm_ (a' := ?_) ?_ ?_
        rotate_left
        · show Act.put _ (some 31) _ = _
          simp only [Act.put, List.setIfInBounds_toArray, List.set_cons_zero, List.set_cons_succ, i64_w, i32_w]
          rfl
        refine pure_ (i := 11) (N := some 32) (v := ?_) (a' := ?_) #[true, true, true, true, true, true, true, true, true, true, true, true] rfl rfl (any_of HT_.out (by kernel_rfl)) (fun _ _ _ h => h) (Or.inl ⟨by rfl, ?_⟩) ?_ ?_
        rotate_left
        · intro w'
          go_simp
          with_reducible rfl
        rotate_left
        · simp only [Act.put, List.setIfInBounds_toArray, List.set_cons_zero, List.set_cons_succ, i64_w, i32_w]
          rfl
        refine done_ (done_of HT_.out (by kernel_rfl)) ?_
        cases b1 with
        | false =>
          have hr := HREST.out
          rw [if_neg (by simp)] at hr
          obtain ⟨rfl, rfl⟩ := Prod.mk.inj (Option.some.inj hr)
          clear hr HREST
          go_wp2
          go_ret
          exact ⟨rfl, I5.out, K5.out⟩
        | true =>
          have HR2 := Aside0.mk (show impl_groupings.runK _ _ _ = _ from (if_pos rfl).symm.trans HREST.out)
          clear HREST
          go_wp2
          go_roundg (many + 1 - (x + 1))
          case measure => have := HX.out; have := HXX.out; omega
          case rel => exact ⟨x + 1, s1, by first | rfl | (simp; done) | (rw [hxu]; rfl) | (rw [hxu]), ⟨by have := HXX.out; omega, by omega⟩, HR2, I5, K5⟩
      · have hx1 : decide ((x : Int) < (many : Int) + 1) = false := decide_eq_false (by omega)
        have hx2 : ((x : Int) < (many : Int) + 1) = False := eq_false (by omega)
        have hrun := HRUN.out
        rw [List.drop_eq_nil_of_le (by simp; omega)] at hrun
        unfold impl_groupings.runK at hrun
        obtain ⟨rfl, rfl⟩ := Prod.mk.inj (Option.some.inj hrun)
        clear hrun HRUN hx
        go_wp2
        go_ret
        exact ⟨rfl, HI.out, HKO.out⟩
set_option maxHeartbeats 2000000 in
set_option maxRecDepth 100000 in
theorem impl_groupings.all {σ : Type} (step : σ → List Int → Option (σ × Bool)) (Inv : σ → World → Prop) (K : Nat → Prop) (B G : Nat) (cb : Array Value) (hE : impl_groupings.Each step Inv K B G cb) (eg : ∀ args w, (callFunc G args).run Try.prog w = .ok (.enter G args) w)
    (hI : ∀ s W W', Inv s W → Below W.heap.size W W' → Inv s W') (hKB : ∀ k, K k → k < B) (wires : Nat) (hwi : wires ≤ 1000) (s s' : σ) (b : Bool) (W : World) (hi : Inv s W) (hB : B ≤ W.heap.size) (hw : impl_groupings.walk step wires [] 0 s = some (s', b)) :
    Calls Try.prog 47 #[.int .i64 (wires : Int), .func (.func G) #[] cb] W fun e w' => e = .returned (.bool b) ∧ Inv s' w' ∧ impl_groupings.KO K W w' := by
  have HI := Aside0.mk hi
  have HBS := Aside0.mk hB
  have HW := Aside0.mk hw
  clear hi hB hw
  have hsz : ((W.alloc (.cells #[.int .i64 (wires : Int)] 3)).alloc (.cells #[.func (.func G) #[] cb] 28)).heap.size = W.heap.size + 1 + 1 := by simp
  have hc3 : (((W.alloc (.cells #[.int .i64 (wires : Int)] 3)).alloc (.cells #[.func (.func G) #[] cb] 28)).alloc (.cells #[.nilFunc] 76)).cell? ⟨W.heap.size + 1 + 1, 0, none⟩ = some .nilFunc := by
    have g := blk_cell (heap_alloc_new ((W.alloc (.cells #[.int .i64 (wires : Int)] 3)).alloc (.cells #[.func (.func G) #[] cb] 28)) (.cells #[.nilFunc] 76)) 0
    rw [hsz] at g
    exact g
  have hf3 : (((W.alloc (.cells #[.int .i64 (wires : Int)] 3)).alloc (.cells #[.func (.func G) #[] cb] 28)).alloc (.cells #[.nilFunc] 76)).frozen? ⟨W.heap.size + 1 + 1, 0, none⟩ = false := by
    have g := blk_frozen (heap_alloc_new ((W.alloc (.cells #[.int .i64 (wires : Int)] 3)).alloc (.cells #[.func (.func G) #[] cb] 28)) (.cells #[.nilFunc] 76)) 0
    rw [hsz] at g
    exact g
  have hst : (store ⟨W.heap.size + 1 + 1, 0, none⟩ (.func (.func 87) #[] #[.pointer (some ⟨W.heap.size, 0, none⟩), .pointer (some ⟨W.heap.size + 1, 0, none⟩), .pointer (some ⟨W.heap.size + 1 + 1, 0, none⟩)])).run Try.prog (((W.alloc (.cells #[.int .i64 (wires : Int)] 3)).alloc (.cells #[.func (.func G) #[] cb] 28)).alloc (.cells #[.nilFunc] 76)) = .ok () ((((W.alloc (.cells #[.int .i64 (wires : Int)] 3)).alloc (.cells #[.func (.func G) #[] cb] 28)).alloc (.cells #[.nilFunc] 76)).setCell ⟨W.heap.size + 1 + 1, 0, none⟩ (.func (.func 87) #[] #[.pointer (some ⟨W.heap.size, 0, none⟩), .pointer (some ⟨W.heap.size + 1, 0, none⟩), .pointer (some ⟨W.heap.size + 1 + 1, 0, none⟩)])) := by
    rw [run_store Try.prog _ _ _ _ (by rfl), hc3]
    simp only [hf3]
    rfl
  go_enter Try.func47, Try.ntmps47
  clear hc3 hf3
  go_wp2_with fail
  clear hst
  have BW := Aside0.mk (show Below W.heap.size W (((W.alloc (.cells #[.int .i64 (wires : Int)] 3)).alloc (.cells #[.func (.func G) #[] cb] 28)).alloc (.cells #[.func (.func 87) #[] #[.pointer (some ⟨W.heap.size, 0, none⟩), .pointer (some ⟨W.heap.size + 1, 0, none⟩), .pointer (some ⟨W.heap.size + 1 + 1, 0, none⟩)]] 76)) from by repeat (first | exact Below.refl _ _ | apply below_alloc))
  have hn : ∀ k, W.heap.size ≤ k → ¬ K k := fun k hk hkk => by have := hKB k hkk; have := HBS.out; omega
  have f1 : (((W.alloc (.cells #[.int .i64 (wires : Int)] 3)).alloc (.cells #[.func (.func G) #[] cb] 28)).alloc (.cells #[.func (.func 87) #[] #[.pointer (some ⟨W.heap.size, 0, none⟩), .pointer (some ⟨W.heap.size + 1, 0, none⟩), .pointer (some ⟨W.heap.size + 1 + 1, 0, none⟩)]] 76)).cell? ⟨W.heap.size, 0, none⟩ = some (.int .i64 (wires : Int)) := (blk_cell (blk_alloc (blk_alloc (heap_alloc_new W _) _) _) 0).trans rfl
  have f2 : (((W.alloc (.cells #[.int .i64 (wires : Int)] 3)).alloc (.cells #[.func (.func G) #[] cb] 28)).alloc (.cells #[.func (.func 87) #[] #[.pointer (some ⟨W.heap.size, 0, none⟩), .pointer (some ⟨W.heap.size + 1, 0, none⟩), .pointer (some ⟨W.heap.size + 1 + 1, 0, none⟩)]] 76)).cell? ⟨W.heap.size + 1, 0, none⟩ = some (.func (.func G) #[] cb) := by
    have g := blk_cell (blk_alloc (heap_alloc_new (W.alloc (.cells #[.int .i64 (wires : Int)] 3)) (.cells #[.func (.func G) #[] cb] 28)) (.cells #[.func (.func 87) #[] #[.pointer (some ⟨W.heap.size, 0, none⟩), .pointer (some ⟨W.heap.size + 1, 0, none⟩), .pointer (some ⟨W.heap.size + 1 + 1, 0, none⟩)]] 76)) 0
    rw [show (W.alloc (.cells #[.int .i64 (wires : Int)] 3)).heap.size = W.heap.size + 1 by simp] at g
    exact g
  have f3 : (((W.alloc (.cells #[.int .i64 (wires : Int)] 3)).alloc (.cells #[.func (.func G) #[] cb] 28)).alloc (.cells #[.func (.func 87) #[] #[.pointer (some ⟨W.heap.size, 0, none⟩), .pointer (some ⟨W.heap.size + 1, 0, none⟩), .pointer (some ⟨W.heap.size + 1 + 1, 0, none⟩)]] 76)).cell? ⟨W.heap.size + 1 + 1, 0, none⟩ = some (.func (.func 87) #[] #[.pointer (some ⟨W.heap.size, 0, none⟩), .pointer (some ⟨W.heap.size + 1, 0, none⟩), .pointer (some ⟨W.heap.size + 1 + 1, 0, none⟩)]) := by
    have g := blk_cell (heap_alloc_new ((W.alloc (.cells #[.int .i64 (wires : Int)] 3)).alloc (.cells #[.func (.func G) #[] cb] 28)) (.cells #[.func (.func 87) #[] #[.pointer (some ⟨W.heap.size, 0, none⟩), .pointer (some ⟨W.heap.size + 1, 0, none⟩), .pointer (some ⟨W.heap.size + 1 + 1, 0, none⟩)]] 76)) 0
    rw [hsz] at g
    exact g
  refine (impl_groupings.choose step Inv K B G cb hE eg hI hKB wires hwi W.heap.size (W.heap.size + 1) (W.heap.size + 1 + 1) (hn _ (Nat.le_refl _)) (hn _ (by omega)) (hn _ (by omega)) wires [] 0 s s' b (.slice none 0 0) _ (by simp) (Nat.le_refl _) ⟨f1, f2, f3⟩ (hI _ _ _ HI.out BW.out) (Kd.R_nil _ _ _ _ _) (Nat.le_trans HBS.out BW.out.size) HW.out).mono ?_
  rintro e w' ⟨rfl, hi', hk⟩
  go_wp2
  go_ret
  exact ⟨rfl, hi', (impl_groupings.KO.below BW.out).trans hk⟩


/-! ### slices_Equal_int_int: function 49 -/
def slices_Equal_int_int.l0 : Nat → List Int → List Int → Int → Int → Option (Bool)
  | 0, _, _, _, _ => none
  | k + 1, x0, x1, x12, x13 => if x13 < x12 then (if 0 ≤ x13 then (if x13 < (x0.length : Int) then (if x13 < (x1.length : Int) then (if (rd x0 x13) = (rd x1 x13) then (slices_Equal_int_int.l0 k x0 x1 x12 (wrap64 (x13 + 1))) else (some false)) else (none)) else (none)) else (none)) else (some true)
def slices_Equal_int_int.f (k : Nat) (l0 : List Int) (l1 : List Int) : Option (Bool) := if (l0.length : Int) = (l1.length : Int) then (slices_Equal_int_int.l0 k l0 l1 (l0.length : Int) 0) else (some false)
theorem slices_Equal_int_int.mono_l : ∀ k, (∀ y0 y1 y2 y3, LeO (slices_Equal_int_int.l0 k y0 y1 y2 y3) (slices_Equal_int_int.l0 (k + 1) y0 y1 y2 y3))
  | 0 => fun _ _ _ _ r h => by simp [slices_Equal_int_int.l0] at h
  | k + 1 => by
    have ih0 := slices_Equal_int_int.mono_l k
    · intro y0 y1 y2 y3
      unfold slices_Equal_int_int.l0
      repeat' first
      | (with_reducible exact ih0 _ _ _ _)
      | (with_reducible exact LeO.refl _)
      | (with_reducible exact LeO.none _)
      | (with_reducible refine LeO.ite ?_ ?_)
      | (with_reducible refine LeO.bind ?_ (fun _ => ?_))
      | exact ih0 _ _ _ _
      | exact LeO.none _
      | refine LeO.ite ?_ ?_
      | refine LeO.bind ?_ (fun _ => ?_)
theorem slices_Equal_int_int.mono : ∀ a0 a1 k, LeO (slices_Equal_int_int.f k a0 a1) (slices_Equal_int_int.f (k + 1) a0 a1) := by
  intro a0 a1 k
  have ih0 := slices_Equal_int_int.mono_l k
  unfold slices_Equal_int_int.f
  repeat' first
      | (with_reducible exact ih0 _ _ _ _)
      | (with_reducible exact LeO.refl _)
      | (with_reducible exact LeO.none _)
      | (with_reducible refine LeO.ite ?_ ?_)
      | (with_reducible refine LeO.bind ?_ (fun _ => ?_))
      | exact ih0 _ _ _ _
      | exact LeO.none _
      | refine LeO.ite ?_ ?_
      | refine LeO.bind ?_ (fun _ => ?_)
set_option maxHeartbeats 8000000 in
set_option maxRecDepth 100000 in
theorem slices_Equal_int_int.calls (k : Nat) (A0 : Option Addr) (c0 : Nat) (l0 : List Int) (A1 : Option Addr) (c1 : Nat) (l1 : List Int) (r : Bool) (w : World) (hr0 : Kd.C (Kd.int .i64) w A0 l0.length l0) (hc0 : l0.length ≤ c0) (hr1 : Kd.C (Kd.int .i64) w A1 l1.length l1) (hc1 : l1.length ≤ c1) (h : slices_Equal_int_int.f k l0 l1 = some r) :
    Calls Try.prog 49 #[.slice A0 l0.length c0, .slice A1 l1.length c1] w fun e w' => e = .returned (.bool r) ∧ Drawn0 w w' := by
  have HR0 := Aside0.mk hr0
  have HC0 := Aside0.mk hc0
  clear hr0 hc0
  have HR1 := Aside0.mk hr1
  have HC1 := Aside0.mk hc1
  clear hr1 hc1
  have H : (if (l0.length : Int) = (l1.length : Int) then (slices_Equal_int_int.l0 k l0 l1 (l0.length : Int) 0) else (some false)) = some r := h
  clear h
  by_cases c3 : (l0.length : Int) = (l1.length : Int)
  · rw [if_pos c3] at H
    have c3b0 : ((l0.length : Int) == (l1.length : Int)) = true := beq_iff_eq.mpr c3
    have c3b1 : ((l0.length : Int) != (l1.length : Int)) = false := bne_eq_false_iff_eq.mpr c3
    have c3b2 : (l0.length == l1.length) = true := by first | simpa using c3 | (simp at c3 ⊢; omega)
    clear c3
    have H' := Aside0.mk H
    clear H
    go_enter Try.func49, Try.ntmps49
    go_wp2
    repeat (go_quiet (fail); try go_wp2)
    go_loopg [13] k (fun kq v13 w' => ∃ (x13_1 : Int), v13 = .int .i64 x13_1 ∧ Aside0 (slices_Equal_int_int.l0 kq l0 l1 (l0.length : Int) x13_1 = some r) ∧ Aside0 (kq ≤ k) ∧ Drawn0 w w')
    case atStart => exact ⟨(0), (by first | rfl | (simp; done) | (simp [*]; done)), H', ⟨Nat.le_refl _⟩, by repeat (first | exact Drawn0.refl _ | apply Drawn0.step)⟩
    case round =>
      clear H'
      try clear c1
      try clear p2
      try clear c3
      try clear c3b0
      try clear c3b1
      try clear c3b2
      obtain ⟨x13_1, rfl, HA, HK1, ⟨m1, rfl⟩⟩ := hrel
      cases gk with
      | zero => exact absurd HA.out (by simp [slices_Equal_int_int.l0])
      | succ k1 =>
        have H := HA.out
        clear HA
        simp only [slices_Equal_int_int.l0] at H
        by_cases c4 : x13_1 < (l0.length : Int)
        · rw [if_pos c4] at H
          have c4b0 : decide (x13_1 < (l0.length : Int)) = true := decide_eq_true c4
          clear c4
          by_cases c5 : 0 ≤ x13_1
          · rw [if_pos c5] at H
            have c5b0 : decide (0 ≤ x13_1) = true := decide_eq_true c5
            clear c5
            by_cases c6 : x13_1 < (l0.length : Int)
            · rw [if_pos c6] at H
              have c6b0 : decide (x13_1 < (l0.length : Int)) = true := decide_eq_true c6
              clear c6
              by_cases c7 : x13_1 < (l1.length : Int)
              · rw [if_pos c7] at H
                have c7b0 : decide (x13_1 < (l1.length : Int)) = true := decide_eq_true c7
                clear c7
                by_cases c8 : (rd l0 x13_1) = (rd l1 x13_1)
                · rw [if_pos c8] at H
                  have c8b0 : ((rd l0 x13_1) == (rd l1 x13_1)) = true := beq_iff_eq.mpr c8
                  have c8b1 : ((rd l0 x13_1) != (rd l1 x13_1)) = false := bne_eq_false_iff_eq.mpr c8
                  clear c8
                  have H' := Aside0.mk H
                  clear H
                  have p265 : 0 ≤ (x13_1 : Int) := of_decide_eq_true (by first | (with_reducible assumption) | assumption)
                  have q265 : x13_1 < (l0.length : Int) := of_decide_eq_true (by first | (with_reducible assumption) | assumption)
                  obtain ⟨ad265, e265, hx265_0⟩ := Kd.at_int HR0.out x13_1 p265 q265
                  cases e265
                  replace p265 := eq_true p265
                  replace q265 := eq_true q265
                  have p266 : 0 ≤ (x13_1 : Int) := of_decide_eq_true (by first | (with_reducible assumption) | assumption)
                  have q266 : x13_1 < (l1.length : Int) := of_decide_eq_true (by first | (with_reducible assumption) | assumption)
                  obtain ⟨ad266, e266, hx266_0⟩ := Kd.at_int HR1.out x13_1 p266 q266
                  cases e266
                  replace p266 := eq_true p266
                  replace q266 := eq_true q266
                  go_wp2
                  repeat (go_quiet (fail); try go_wp2)
                  go_roundg k1
                  case measure => have := HK1.out; omega
                  case rel => exact ⟨(wrap64 (x13_1 + 1)), (by first | rfl | (simp; done) | (simp [*]; done)), H', ⟨by have := HK1.out; omega⟩, by repeat (first | exact Drawn0.refl _ | apply Drawn0.step)⟩
                · rw [if_neg c8] at H
                  have c8b0 : ((rd l0 x13_1) == (rd l1 x13_1)) = false := beq_eq_false_iff_ne.mpr c8
                  have c8b1 : ((rd l0 x13_1) != (rd l1 x13_1)) = true := bne_iff_ne.mpr c8
                  obtain rfl := Option.some.inj H
                  have p265 : 0 ≤ (x13_1 : Int) := of_decide_eq_true (by first | (with_reducible assumption) | assumption)
                  have q265 : x13_1 < (l0.length : Int) := of_decide_eq_true (by first | (with_reducible assumption) | assumption)
                  obtain ⟨ad265, e265, hx265_0⟩ := Kd.at_int HR0.out x13_1 p265 q265
                  cases e265
                  replace p265 := eq_true p265
                  replace q265 := eq_true q265
                  have p266 : 0 ≤ (x13_1 : Int) := of_decide_eq_true (by first | (with_reducible assumption) | assumption)
                  have q266 : x13_1 < (l1.length : Int) := of_decide_eq_true (by first | (with_reducible assumption) | assumption)
                  obtain ⟨ad266, e266, hx266_0⟩ := Kd.at_int HR1.out x13_1 p266 q266
                  cases e266
                  replace p266 := eq_true p266
                  replace q266 := eq_true q266
                  go_wp2
                  repeat (go_quiet (fail); try go_wp2)
                  go_ret
                  exact ⟨by first | rfl | (simp; done) | (simp [*]; done), by repeat (first | exact Drawn0.refl _ | apply Drawn0.step)⟩
              · rw [if_neg c7] at H
                exact absurd H (by simp)
            · rw [if_neg c6] at H
              exact absurd H (by simp)
          · rw [if_neg c5] at H
            exact absurd H (by simp)
        · rw [if_neg c4] at H
          have c4b0 : decide (x13_1 < (l0.length : Int)) = false := decide_eq_false c4
          clear c4
          obtain rfl := Option.some.inj H
          go_wp2
          repeat (go_quiet (fail); try go_wp2)
          go_ret
          exact ⟨by first | rfl | (simp; done) | (simp [*]; done), by repeat (first | exact Drawn0.refl _ | apply Drawn0.step)⟩
  · rw [if_neg c3] at H
    have c3b0 : ((l0.length : Int) == (l1.length : Int)) = false := beq_eq_false_iff_ne.mpr c3
    have c3b1 : ((l0.length : Int) != (l1.length : Int)) = true := bne_iff_ne.mpr c3
    have c3b2 : (l0.length == l1.length) = false := by first | simpa using c3 | (simp at c3 ⊢; omega)
    obtain rfl := Option.some.inj H
    go_enter Try.func49, Try.ntmps49
    go_wp2
    repeat (go_quiet (fail); try go_wp2)
    go_ret
    exact ⟨by first | rfl | (simp; done) | (simp [*]; done), by repeat (first | exact Drawn0.refl _ | apply Drawn0.step)⟩

/-! ### slices_Max_int_int: function 113 -/
def slices_Max_int_int.l0 : Nat → List Int → Int → Int → Option (Int)
  | 0, _, _, _ => none
  | k + 1, x0, x3, x4 => if x4 < (x0.length : Int) then (if 0 ≤ x4 then (slices_Max_int_int.l0 k x0 (mx x3 (rd x0 x4)) (wrap64 (x4 + 1))) else (none)) else (some x3)
def slices_Max_int_int.f (k : Nat) (l0 : List Int) : Option (Int) := if (l0.length : Int) < 1 then (none) else (if 0 < (l0.length : Int) then (slices_Max_int_int.l0 k l0 (rd l0 0) 1) else (none))
theorem slices_Max_int_int.mono_l : ∀ k, (∀ y0 y1 y2, LeO (slices_Max_int_int.l0 k y0 y1 y2) (slices_Max_int_int.l0 (k + 1) y0 y1 y2))
  | 0 => fun _ _ _ r h => by simp [slices_Max_int_int.l0] at h
  | k + 1 => by
    have ih0 := slices_Max_int_int.mono_l k
    · intro y0 y1 y2
      unfold slices_Max_int_int.l0
      repeat' first
      | (with_reducible exact ih0 _ _ _)
      | (with_reducible exact LeO.refl _)
      | (with_reducible exact LeO.none _)
      | (with_reducible refine LeO.ite ?_ ?_)
      | (with_reducible refine LeO.bind ?_ (fun _ => ?_))
      | exact ih0 _ _ _
      | exact LeO.none _
      | refine LeO.ite ?_ ?_
      | refine LeO.bind ?_ (fun _ => ?_)
theorem slices_Max_int_int.mono : ∀ a0 k, LeO (slices_Max_int_int.f k a0) (slices_Max_int_int.f (k + 1) a0) := by
  intro a0 k
  have ih0 := slices_Max_int_int.mono_l k
  unfold slices_Max_int_int.f
  repeat' first
      | (with_reducible exact ih0 _ _ _)
      | (with_reducible exact LeO.refl _)
      | (with_reducible exact LeO.none _)
      | (with_reducible refine LeO.ite ?_ ?_)
      | (with_reducible refine LeO.bind ?_ (fun _ => ?_))
      | exact ih0 _ _ _
      | exact LeO.none _
      | refine LeO.ite ?_ ?_
      | refine LeO.bind ?_ (fun _ => ?_)
set_option maxHeartbeats 8000000 in
set_option maxRecDepth 100000 in
theorem slices_Max_int_int.calls (k : Nat) (A0 : Option Addr) (c0 : Nat) (l0 : List Int) (r : Int) (w : World) (hr0 : Kd.C (Kd.int .i64) w A0 l0.length l0) (hc0 : l0.length ≤ c0) (h : slices_Max_int_int.f k l0 = some r) :
    Calls Try.prog 113 #[.slice A0 l0.length c0] w fun e w' => e = .returned (.int .i64 r) ∧ Below w.heap.size w w' := by
  have HR0 := Aside0.mk hr0
  have HC0 := Aside0.mk hc0
  clear hr0 hc0
  have HB := Aside0.mk (Below.refl w.heap.size w)
  have H : (if (l0.length : Int) < 1 then (none) else (if 0 < (l0.length : Int) then (slices_Max_int_int.l0 k l0 (rd l0 0) 1) else (none))) = some r := h
  clear h
  by_cases c2 : (l0.length : Int) < 1
  · rw [if_pos c2] at H
    exact absurd H (by simp)
  · rw [if_neg c2] at H
    have c2b0 : decide ((l0.length : Int) < 1) = false := decide_eq_false c2
    have c2b1 : decide (l0.length < 1) = false := decide_eq_false (by omega)
    clear c2
    by_cases c3 : 0 < (l0.length : Int)
    · rw [if_pos c3] at H
      have c3b0 : decide (0 < (l0.length : Int)) = true := decide_eq_true c3
      have c3b1 : decide (0 < l0.length) = true := decide_eq_true (by omega)
      clear c3
      have H' := Aside0.mk H
      clear H
      have p267 : 0 ≤ (0 : Int) := (by omega)
      have q267 : 0 < (l0.length : Int) := of_decide_eq_true (by first | (with_reducible assumption) | assumption)
      obtain ⟨ad267, e267, hx267_0⟩ := Kd.at_int HR0.out 0 p267 q267
      cases e267
      have qi267 : (0 < l0.length) = True := eq_true (by omega)
      (try rw [show ((0 : Int)).toNat = 0 from rfl] at hx267_0)
      (try rw [Addr.add_zero'] at hx267_0)
      replace p267 := eq_true p267
      replace q267 := eq_true q267
      go_enter Try.func113, Try.ntmps113
      go_wp2
      go_loopg [3, 4] k (fun kq v3 v4 w' => ∃ (x3_1 : Int) (x4_1 : Int), v3 = .int .i64 x3_1 ∧ v4 = .int .i64 x4_1 ∧ Aside0 (slices_Max_int_int.l0 kq l0 x3_1 x4_1 = some r) ∧ Aside0 (kq ≤ k) ∧ Aside0 (Below w.heap.size w w'))
      case atStart => exact ⟨(rd l0 0), (1), (by first | rfl | (simp; done) | (simp [*]; done)), (by first | rfl | (simp; done) | (simp [*]; done)), H', ⟨Nat.le_refl _⟩, ⟨by repeat (first | (with_reducible first | exact HB.out | apply below_alloc | apply pw_below_drewN | apply below_drew1) | exact HB.out)⟩⟩
      case round =>
        clear H'
        try clear c1
        try clear c2
        try clear c2b0
        try clear c2b1
        try clear p2
        try clear q2
        try clear hx2
        try clear qi2
        try clear c3
        try clear c3b0
        try clear c3b1
        try clear hx267_0
        try clear p267
        try clear q267
        obtain ⟨x3_1, x4_1, rfl, rfl, HA, HK1, HB⟩ := hrel
        cases gk with
        | zero => exact absurd HA.out (by simp [slices_Max_int_int.l0])
        | succ k1 =>
          have H := HA.out
          clear HA
          simp only [slices_Max_int_int.l0] at H
          by_cases c4 : x4_1 < (l0.length : Int)
          · rw [if_pos c4] at H
            have c4b0 : decide (x4_1 < (l0.length : Int)) = true := decide_eq_true c4
            clear c4
            by_cases c5 : 0 ≤ x4_1
            · rw [if_pos c5] at H
              have c5b0 : decide (0 ≤ x4_1) = true := decide_eq_true c5
              clear c5
              obtain ⟨ji6, hji6⟩ : ∃ j_ : Int, (mx x3_1 (rd l0 x4_1)) = j_ := ⟨_, rfl⟩
              replace H : (slices_Max_int_int.l0 k1 l0 ji6 (wrap64 (x4_1 + 1))) = some r := by first | (rw [hji6] at H; exact H) | (simp only [hji6] at H ⊢; exact H)
              have hji6_ : (if x3_1 < (rd l0 x4_1) then (rd l0 x4_1) else x3_1) = ji6 := hji6
              have H' := Aside0.mk H
              clear H
              have p268 : 0 ≤ (x4_1 : Int) := of_decide_eq_true (by first | (with_reducible assumption) | assumption)
              have q268 : x4_1 < (l0.length : Int) := of_decide_eq_true (by first | (with_reducible assumption) | assumption)
              obtain ⟨ad268, e268, hx268_0⟩ := Kd.at_int HR0.out x4_1 p268 q268
              obtain rfl : ad267 = ad268 := (by injection e268)
              replace hx268_0 := (HB.out.cell (World.block_lt_of_cell? w _ hx268_0)).trans hx268_0
              replace p268 := eq_true p268
              replace q268 := eq_true q268
              go_wp2
              go_roundg k1
              case measure => have := HK1.out; omega
              case rel => exact ⟨(ji6), (wrap64 (x4_1 + 1)), (by first | rfl | (simp; done) | (simp only [← hji6] <;> (first | rfl | simp)) | (simp [*]; done)), (by first | rfl | (simp; done) | (simp [*]; done)), H', ⟨by have := HK1.out; omega⟩, ⟨by repeat (first | (with_reducible first | exact HB.out | apply below_alloc | apply pw_below_drewN | apply below_drew1) | exact HB.out)⟩⟩
            · rw [if_neg c5] at H
              exact absurd H (by simp)
          · rw [if_neg c4] at H
            have c4b0 : decide (x4_1 < (l0.length : Int)) = false := decide_eq_false c4
            clear c4
            obtain rfl := Option.some.inj H
            go_wp2
            go_ret
            exact ⟨by first | rfl | (simp [errW_none, errW_some] <;> rfl) | (simp [*, errW_none, errW_some] <;> rfl), by repeat (first | (with_reducible first | exact HB.out | apply below_alloc | apply pw_below_drewN | apply below_drew1) | exact HB.out)⟩
    · rw [if_neg c3] at H
      exact absurd H (by simp)

end Go.Proofs.Ytelhcooeafhgoaa.PFnExactSizesTell
