-- Written by a program of this claim, over the kit's print: the functions that a law reaches, their plain forms and the walks.
import Derived.Test.YtbmhgmnlkeebcabPFnExactNeedlessTestsx0
import Derived.Test.YtbmhgmnlkeebcabPFnExactNeedlessTestsx2
namespace Go.Proofs.Ytbmhgmnlkeebcab.PFnExactNeedlessTests
open Go.RowKit Go.Proofs.YtbmhgmnlkeebcabW.PrintWords Go.Proofs.YtbmhgmnlkeebcabW.PrintLast Go.Proofs.YtbmhgmnlkeebcabW.PrintMore
attribute [local go_sem] max2_int min2_int max_two min_two max_three min_three max_four min_four   -- for this text's walks alone
set_option linter.unusedVariables false
set_option linter.unusedSimpArgs false

/-! ### spec_wiBits: function 56 -/
def spec_wiBits.l0 : Nat → Int → List Int → Int → Int → Option (Int)
  | 0, _, _, _, _ => none
  | k + 1, x3, x6, x7, x8 => if x8 < x7 then (if 0 ≤ x8 then (if x8 < (x6.length : Int) then (if 0 ≤ (rd x6 x8) then (spec_wiBits.l0 k (Go.bits .or .i64 x3 (shl .i64 1 (rd x6 x8))) x6 x7 (wrap64 (x8 + 1))) else (none)) else (none)) else (none)) else (some x3)
def spec_wiBits.f (k : Nat) (l0 : List Int) : Option (Int) := spec_wiBits.l0 k 0 l0 (l0.length : Int) 0
theorem spec_wiBits.mono_l : ∀ k, (∀ y0 y1 y2 y3, LeO (spec_wiBits.l0 k y0 y1 y2 y3) (spec_wiBits.l0 (k + 1) y0 y1 y2 y3))
  | 0 => fun _ _ _ _ r h => by simp [spec_wiBits.l0] at h
  | k + 1 => by
    have ih0 := spec_wiBits.mono_l k
    · intro y0 y1 y2 y3
      unfold spec_wiBits.l0
      repeat' first
      | (with_reducible exact ih0 _ _ _ _)
      | (with_reducible exact LeO.refl _)
      | (with_reducible exact LeO.none _)
      | (with_reducible refine LeO.ite ?_ ?_)
      | (with_reducible refine LeO.bind ?_ (fun _ => ?_))
      | exact ih0 _ _ _ _
      | exact LeO.none _
      | refine LeO.ite ?_ ?_
      | refine LeO.bind ?_ (fun _ => ?_)
theorem spec_wiBits.mono : ∀ a0 k, LeO (spec_wiBits.f k a0) (spec_wiBits.f (k + 1) a0) := by
  intro a0 k
  have ih0 := spec_wiBits.mono_l k
  unfold spec_wiBits.f
  repeat' first
      | (with_reducible exact ih0 _ _ _ _)
      | (with_reducible exact LeO.refl _)
      | (with_reducible exact LeO.none _)
      | (with_reducible refine LeO.ite ?_ ?_)
      | (with_reducible refine LeO.bind ?_ (fun _ => ?_))
      | exact ih0 _ _ _ _
      | exact LeO.none _
      | refine LeO.ite ?_ ?_
      | refine LeO.bind ?_ (fun _ => ?_)
set_option maxHeartbeats 8000000 in
set_option maxRecDepth 100000 in
theorem spec_wiBits.calls (k : Nat) (A0 : Option Addr) (c0 : Nat) (l0 : List Int) (r : Int) (w : World) (hr0 : Kd.C (Kd.int .i64) w A0 l0.length l0) (hc0 : l0.length ≤ c0) (h : spec_wiBits.f k l0 = some r) :
    Calls Try.prog 56 #[.slice A0 l0.length c0] w fun e w' => e = .returned (.int .i64 r) ∧ Drawn0 w w' := by
  have HR0 := Aside0.mk hr0
  have HC0 := Aside0.mk hc0
  clear hr0 hc0
  have H : (spec_wiBits.l0 k 0 l0 (l0.length : Int) 0) = some r := h
  clear h
  have H' := Aside0.mk H
  clear H
  go_enter Try.func56, Try.ntmps56
  go_wp2
  go_loopg [3, 8] k (fun kq v3 v8 w' => ∃ (x3_1 : Int) (x8_1 : Int), v3 = .int .i64 x3_1 ∧ v8 = .int .i64 x8_1 ∧ Aside0 (spec_wiBits.l0 kq x3_1 l0 (l0.length : Int) x8_1 = some r) ∧ Aside0 (kq ≤ k) ∧ Drawn0 w w')
  case atStart => exact ⟨(0), (0), (by first | rfl | (simp; done) | (simp [*]; done)), (by first | rfl | (simp; done) | (simp [*]; done)), H', ⟨Nat.le_refl _⟩, by repeat (first | exact Drawn0.refl _ | apply Drawn0.step)⟩
  case round =>
    clear H'
    obtain ⟨x3_1, x8_1, rfl, rfl, HA, HK1, ⟨m1, rfl⟩⟩ := hrel
    cases gk with
    | zero => exact absurd HA.out (by simp [spec_wiBits.l0])
    | succ k1 =>
      have H := HA.out
      clear HA
      simp only [spec_wiBits.l0] at H
      by_cases c2 : x8_1 < (l0.length : Int)
      · rw [if_pos c2] at H
        have c2b0 : decide (x8_1 < (l0.length : Int)) = true := decide_eq_true c2
        clear c2
        by_cases c3 : 0 ≤ x8_1
        · rw [if_pos c3] at H
          have c3b0 : decide (0 ≤ x8_1) = true := decide_eq_true c3
          clear c3
          by_cases c4 : x8_1 < (l0.length : Int)
          · rw [if_pos c4] at H
            have c4b0 : decide (x8_1 < (l0.length : Int)) = true := decide_eq_true c4
            clear c4
            by_cases c5 : 0 ≤ (rd l0 x8_1)
            · rw [if_pos c5] at H
              have c5b0 := eq_true c5
              have c5b1 : decide (0 ≤ (rd l0 x8_1)) = true := decide_eq_true c5
              clear c5
              obtain ⟨ji6, hji6⟩ : ∃ j_ : Int, (shl .i64 1 (rd l0 x8_1)) = j_ := ⟨_, rfl⟩
              replace H : (spec_wiBits.l0 k1 (Go.bits .or .i64 x3_1 (ji6)) l0 (l0.length : Int) (wrap64 (x8_1 + 1))) = some r := by first | (rw [hji6] at H; exact H) | (simp only [hji6] at H ⊢; exact H)
              have hji6_ : (IntKind.i64.wrap (1 * 2 ^ min (rd l0 x8_1).toNat 64)) = ji6 := hji6
              have hji6z : (rd l0 x8_1) ≤ 64 → (IntKind.i64.wrap (1 * 2 ^ (rd l0 x8_1).toNat)) = ji6 := shl_small hji6
              have hji6u : (IntKind.i64.wrap (2 ^ min (rd l0 x8_1).toNat 64)) = ji6 := by have h_ := hji6_; rw [Int.one_mul] at h_; exact h_
              have hji6v : (rd l0 x8_1) ≤ 64 → (IntKind.i64.wrap (2 ^ (rd l0 x8_1).toNat)) = ji6 := fun hle_ => by have h_ := hji6z hle_; rw [Int.one_mul] at h_; exact h_
              have hji6y : (wrap64 (1 * 2 ^ min (rd l0 x8_1).toNat 64)) = ji6 := (i64_w _).symm.trans hji6_
              have hji6x : (rd l0 x8_1) ≤ 64 → (wrap64 (1 * 2 ^ (rd l0 x8_1).toNat)) = ji6 := fun h_ => (i64_w _).symm.trans (hji6z h_)
              have H' := Aside0.mk H
              clear H
              have p156 : 0 ≤ (x8_1 : Int) := of_decide_eq_true (by first | (with_reducible assumption) | assumption)
              have q156 : x8_1 < (l0.length : Int) := of_decide_eq_true (by first | (with_reducible assumption) | assumption)
              obtain ⟨ad156, e156, hx156_0⟩ := Kd.at_int HR0.out x8_1 p156 q156
              cases e156
              replace p156 := eq_true p156
              replace q156 := eq_true q156
              go_wp2
              go_roundg k1
              case measure => have := HK1.out; omega
              case rel => exact ⟨(Go.bits .or .i64 x3_1 (ji6)), (wrap64 (x8_1 + 1)), (by first | rfl | (simp; done) | (simp only [← hji6] <;> (first | rfl | simp)) | (simp [*]; done)), (by first | rfl | (simp; done) | (simp [*]; done)), H', ⟨by have := HK1.out; omega⟩, by repeat (first | exact Drawn0.refl _ | apply Drawn0.step)⟩
            · rw [if_neg c5] at H
              exact absurd H (by simp)
          · rw [if_neg c4] at H
            exact absurd H (by simp)
        · rw [if_neg c3] at H
          exact absurd H (by simp)
      · rw [if_neg c2] at H
        have c2b0 : decide (x8_1 < (l0.length : Int)) = false := decide_eq_false c2
        clear c2
        obtain rfl := Option.some.inj H
        go_wp2
        go_ret
        exact ⟨by first | rfl | (simp; done) | (simp [*]; done), by repeat (first | exact Drawn0.refl _ | apply Drawn0.step)⟩

/-! ### spec_wiResults: function 55 -/
def spec_wiResults.l0 : Nat → Int → ByteArray → List (List Int) → Int → Int → Option (ByteArray)
  | 0, _, _, _, _, _ => none
  | k + 1, x1, x5, x8, x9, x10 => if x10 < x9 then (if 0 ≤ x10 then (if x10 < (x8.length : Int) then ((spec_wiBits.f k (rd_L1 x8 x10)).bind fun t158 => (if (Go.bits .and .i64 t158 x1) = 0 then (if x5.size + 1 ≤ 9223372036854775807 then (spec_wiResults.l0 k x1 (x5 ++ (⟨#[48]⟩ : ByteArray)) x8 x9 (wrap64 (x10 + 1))) else (none)) else (if x5.size + 1 ≤ 9223372036854775807 then (spec_wiResults.l0 k x1 (x5 ++ (⟨#[49]⟩ : ByteArray)) x8 x9 (wrap64 (x10 + 1))) else (none)))) else (none)) else (none)) else (some x5)
def spec_wiResults.f (k : Nat) (l0 : List (List Int)) (a1 : Int) : Option (ByteArray) := spec_wiResults.l0 k a1 (⟨#[]⟩ : ByteArray) l0 (l0.length : Int) 0
theorem spec_wiResults.mono_l : ∀ k, (∀ y0 y1 y2 y3 y4, LeO (spec_wiResults.l0 k y0 y1 y2 y3 y4) (spec_wiResults.l0 (k + 1) y0 y1 y2 y3 y4))
  | 0 => fun _ _ _ _ _ r h => by simp [spec_wiResults.l0] at h
  | k + 1 => by
    have ih0 := spec_wiResults.mono_l k
    · intro y0 y1 y2 y3 y4
      unfold spec_wiResults.l0
      repeat' first
      | (with_reducible exact ih0 _ _ _ _ _)
      | (with_reducible exact spec_wiBits.mono _ _)
      | (with_reducible exact LeO.refl _)
      | (with_reducible exact LeO.none _)
      | (with_reducible refine LeO.ite ?_ ?_)
      | (with_reducible refine LeO.bind ?_ (fun _ => ?_))
      | exact ih0 _ _ _ _ _
      | exact spec_wiBits.mono _ _
      | exact LeO.none _
      | refine LeO.ite ?_ ?_
      | refine LeO.bind ?_ (fun _ => ?_)
theorem spec_wiResults.mono : ∀ a0 a1 k, LeO (spec_wiResults.f k a0 a1) (spec_wiResults.f (k + 1) a0 a1) := by
  intro a0 a1 k
  have ih0 := spec_wiResults.mono_l k
  unfold spec_wiResults.f
  repeat' first
      | (with_reducible exact ih0 _ _ _ _ _)
      | (with_reducible exact spec_wiBits.mono _ _)
      | (with_reducible exact LeO.refl _)
      | (with_reducible exact LeO.none _)
      | (with_reducible refine LeO.ite ?_ ?_)
      | (with_reducible refine LeO.bind ?_ (fun _ => ?_))
      | exact ih0 _ _ _ _ _
      | exact spec_wiBits.mono _ _
      | exact LeO.none _
      | refine LeO.ite ?_ ?_
      | refine LeO.bind ?_ (fun _ => ?_)
set_option maxHeartbeats 8000000 in
set_option maxRecDepth 100000 in
theorem spec_wiResults.calls (k : Nat) (A0 : Option Addr) (c0 : Nat) (l0 : List (List Int)) (a1 : Int) (r : ByteArray) (w : World) (hr0 : Kd.C (Kd.slice 3 (Kd.int .i64)) w A0 l0.length l0) (hc0 : l0.length ≤ c0) (h : spec_wiResults.f k l0 a1 = some r) :
    Calls Try.prog 55 #[.slice A0 l0.length c0, .int .i64 a1] w fun e w' => e = .returned (.string r) ∧ Drawn0 w w' := by
  have HR0 := Aside0.mk hr0
  have HC0 := Aside0.mk hc0
  clear hr0 hc0
  have H : (spec_wiResults.l0 k a1 (⟨#[]⟩ : ByteArray) l0 (l0.length : Int) 0) = some r := h
  clear h
  have H' := Aside0.mk H
  clear H
  go_enter Try.func55, Try.ntmps55
  go_wp2
  go_loopg [5, 10] k (fun kq v5 v10 w' => ∃ (x5_1 : ByteArray) (x10_1 : Int), v5 = .string x5_1 ∧ v10 = .int .i64 x10_1 ∧ Aside0 (spec_wiResults.l0 kq a1 x5_1 l0 (l0.length : Int) x10_1 = some r) ∧ Aside0 (kq ≤ k) ∧ Drawn0 w w')
  case atStart => exact ⟨((⟨#[]⟩ : ByteArray)), (0), (by first | rfl | (simp; done) | (simp [*]; done)), (by first | rfl | (simp; done) | (simp [*]; done)), H', ⟨Nat.le_refl _⟩, by repeat (first | exact Drawn0.refl _ | apply Drawn0.step)⟩
  case round =>
    clear H'
    try clear p2
    obtain ⟨x5_1, x10_1, rfl, rfl, HA, HK1, ⟨m1, rfl⟩⟩ := hrel
    cases gk with
    | zero => exact absurd HA.out (by simp [spec_wiResults.l0])
    | succ k1 =>
      have H := HA.out
      clear HA
      simp only [spec_wiResults.l0] at H
      by_cases c3 : x10_1 < (l0.length : Int)
      · rw [if_pos c3] at H
        have c3b0 : decide (x10_1 < (l0.length : Int)) = true := decide_eq_true c3
        clear c3
        by_cases c4 : 0 ≤ x10_1
        · rw [if_pos c4] at H
          have c4b0 : decide (0 ≤ x10_1) = true := decide_eq_true c4
          clear c4
          by_cases c5 : x10_1 < (l0.length : Int)
          · rw [if_pos c5] at H
            have c5b0 : decide (x10_1 < (l0.length : Int)) = true := decide_eq_true c5
            clear c5
            replace H := Option.bind_eq_some_iff.mp H
            obtain ⟨t158, A60, H⟩ := H
            replace H : (if (Go.bits .and .i64 t158 a1) = 0 then (if x5_1.size + 1 ≤ 9223372036854775807 then (spec_wiResults.l0 k1 a1 (x5_1 ++ (⟨#[48]⟩ : ByteArray)) l0 (l0.length : Int) (wrap64 (x10_1 + 1))) else (none)) else (if x5_1.size + 1 ≤ 9223372036854775807 then (spec_wiResults.l0 k1 a1 (x5_1 ++ (⟨#[49]⟩ : ByteArray)) l0 (l0.length : Int) (wrap64 (x10_1 + 1))) else (none))) = some r := H
            have A6 := Aside0.mk A60
            clear A60
            by_cases c7 : (Go.bits .and .i64 t158 a1) = 0
            · rw [if_pos c7] at H
              have c7b0 : ((Go.bits .and .i64 t158 a1) == 0) = true := beq_iff_eq.mpr c7
              have c7b1 : ((Go.bits .and .i64 t158 a1) != 0) = false := bne_eq_false_iff_eq.mpr c7
              clear c7
              by_cases c8 : x5_1.size + 1 ≤ 9223372036854775807
              · rw [if_pos c8] at H
                have c8b0 := eq_true c8
                have c8b1 : decide (x5_1.size + 1 ≤ 9223372036854775807) = true := decide_eq_true c8
                try have c8b2 : (9223372036854775807 < x5_1.size + 1) = False := eq_false (Nat.not_lt.2 c8)
                have H' := Aside0.mk H
                clear H
                have p157 : 0 ≤ (x10_1 : Int) := of_decide_eq_true (by first | (with_reducible assumption) | assumption)
                have q157 : x10_1 < (l0.length : Int) := of_decide_eq_true (by first | (with_reducible assumption) | assumption)
                obtain ⟨ad157, A157_0, c157_0, e157, hx157_0, hl157_0, hi157_0⟩ := at_L1 HR0.out x10_1 p157 q157
                cases e157
                have HR157_0 := Aside0.mk hi157_0
                have HC157_0 := Aside0.mk hl157_0
                clear hi157_0 hl157_0
                replace p157 := eq_true p157
                replace q157 := eq_true q157
                go_wp2_with (first | ((with_reducible refine gate_callee (f := 56) rfl ?_); refine goesL_ (some 15) rfl rfl Try.func56 (by kernel_rfl) rfl #[.slice A157_0 (rd_L1 l0 x10_1).length c157_0] rfl (by (try simp only [List.map_toArray, List.map_cons, List.map_nil]); first | done | rfl | (simp only [List.length_drop, List.length_take]; rfl) | (simp; done) | (refine congrArg Value.bool ?_; simp; done) | (refine congrArg (fun z_ => #[Value.bool z_]) ?_; simp; done)) ?_; (with_reducible refine (spec_wiBits.calls k1 _ _ (rd_L1 l0 x10_1) t158 _ ?side1 ?side2 A6.out).mono ?_); (case side1 => repeat (first | exact HR157_0.out | (with_reducible refine Kd.C_alloc ?_ _) | (with_reducible refine Kd.C_drewN ?_ _) | (with_reducible refine Kd.C_drew ?_))); (case side2 => exact HC157_0.out); rintro e w' ⟨rfl, ⟨nd, rfl⟩⟩; refine ⟨_, rfl, ?_⟩))
                go_roundg k1
                case measure => have := HK1.out; omega
                case rel => exact ⟨(x5_1 ++ (⟨#[48]⟩ : ByteArray)), (wrap64 (x10_1 + 1)), (by first | rfl | (simp; done) | (simp [*]; done)), (by first | rfl | (simp; done) | (simp [*]; done)), H', ⟨by have := HK1.out; omega⟩, by repeat (first | exact Drawn0.refl _ | apply Drawn0.step)⟩
              · rw [if_neg c8] at H
                exact absurd H (by simp)
            · rw [if_neg c7] at H
              have c7b0 : ((Go.bits .and .i64 t158 a1) == 0) = false := beq_eq_false_iff_ne.mpr c7
              have c7b1 : ((Go.bits .and .i64 t158 a1) != 0) = true := bne_iff_ne.mpr c7
              by_cases c9 : x5_1.size + 1 ≤ 9223372036854775807
              · rw [if_pos c9] at H
                have c9b0 := eq_true c9
                have c9b1 : decide (x5_1.size + 1 ≤ 9223372036854775807) = true := decide_eq_true c9
                try have c9b2 : (9223372036854775807 < x5_1.size + 1) = False := eq_false (Nat.not_lt.2 c9)
                have H' := Aside0.mk H
                clear H
                have p157 : 0 ≤ (x10_1 : Int) := of_decide_eq_true (by first | (with_reducible assumption) | assumption)
                have q157 : x10_1 < (l0.length : Int) := of_decide_eq_true (by first | (with_reducible assumption) | assumption)
                obtain ⟨ad157, A157_0, c157_0, e157, hx157_0, hl157_0, hi157_0⟩ := at_L1 HR0.out x10_1 p157 q157
                cases e157
                have HR157_0 := Aside0.mk hi157_0
                have HC157_0 := Aside0.mk hl157_0
                clear hi157_0 hl157_0
                replace p157 := eq_true p157
                replace q157 := eq_true q157
                go_wp2_with (first | ((with_reducible refine gate_callee (f := 56) rfl ?_); refine goesL_ (some 15) rfl rfl Try.func56 (by kernel_rfl) rfl #[.slice A157_0 (rd_L1 l0 x10_1).length c157_0] rfl (by (try simp only [List.map_toArray, List.map_cons, List.map_nil]); first | done | rfl | (simp only [List.length_drop, List.length_take]; rfl) | (simp; done) | (refine congrArg Value.bool ?_; simp; done) | (refine congrArg (fun z_ => #[Value.bool z_]) ?_; simp; done)) ?_; (with_reducible refine (spec_wiBits.calls k1 _ _ (rd_L1 l0 x10_1) t158 _ ?side1 ?side2 A6.out).mono ?_); (case side1 => repeat (first | exact HR157_0.out | (with_reducible refine Kd.C_alloc ?_ _) | (with_reducible refine Kd.C_drewN ?_ _) | (with_reducible refine Kd.C_drew ?_))); (case side2 => exact HC157_0.out); rintro e w' ⟨rfl, ⟨nd, rfl⟩⟩; refine ⟨_, rfl, ?_⟩))
                go_roundg k1
                case measure => have := HK1.out; omega
                case rel => exact ⟨(x5_1 ++ (⟨#[49]⟩ : ByteArray)), (wrap64 (x10_1 + 1)), (by first | rfl | (simp; done) | (simp [*]; done)), (by first | rfl | (simp; done) | (simp [*]; done)), H', ⟨by have := HK1.out; omega⟩, by repeat (first | exact Drawn0.refl _ | apply Drawn0.step)⟩
              · rw [if_neg c9] at H
                exact absurd H (by simp)
          · rw [if_neg c5] at H
            exact absurd H (by simp)
        · rw [if_neg c4] at H
          exact absurd H (by simp)
      · rw [if_neg c3] at H
        have c3b0 : decide (x10_1 < (l0.length : Int)) = false := decide_eq_false c3
        clear c3
        obtain rfl := Option.some.inj H
        go_wp2
        go_ret
        exact ⟨by first | rfl | (simp; done) | (simp [*]; done), by repeat (first | exact Drawn0.refl _ | apply Drawn0.step)⟩

/-! ### spec_wiTells: function 32 -/
theorem spec_wiTells.info4 : (Try.prog.info? 4).map (fun i => (i.zero, i.size, i.bytes)) = some (some (.bool false), 1, 1) := by kernel_rfl
/-- The number that the first x signs of a text of signs make. -/
def spec_wiTells.p_val (s : ByteArray) (x : Nat) : Nat := ((List.range x).map fun (j : Nat) => if rd (bytesOf s) (j : Int) = 49 then 2 ^ j else 0).sum
theorem spec_wiTells.val_succ (s : ByteArray) (x : Nat) : spec_wiTells.p_val s (x + 1) = spec_wiTells.p_val s x + (if rd (bytesOf s) (x : Int) = 49 then 2 ^ x else 0) := by
  unfold spec_wiTells.p_val
  rw [List.range_succ, List.map_append, List.sum_append]
  simp
theorem spec_wiTells.val_lt (s : ByteArray) : ∀ x : Nat, spec_wiTells.p_val s x < 2 ^ x
  | 0 => by simp [spec_wiTells.p_val]
  | x + 1 => by
    have ih := spec_wiTells.val_lt s x
    have h2 : (2 : Nat) ^ (x + 1) = 2 ^ x + 2 ^ x := by rw [Nat.pow_succ]; omega
    rw [spec_wiTells.val_succ]
    split <;> omega
def spec_wiTells.l0 : Nat → List (List Int) → List (List Int) → List Bool → Nat → Option Bool
  | 0, _, _, _, _ => none
  | k + 1, tests, all, seen, i => if i < all.length then (spec_wiBits.f k (all.getD i [])).bind fun b => (spec_wiResults.f k tests b).bind fun s => if s.size ≤ 40 then (if spec_wiTells.p_val s s.size < seen.length then (if seen.getD (spec_wiTells.p_val s s.size) false = true then some false else spec_wiTells.l0 k tests all (seen.set (spec_wiTells.p_val s s.size) true) (i + 1)) else none) else none else some true
def spec_wiTells.f (k : Nat) (a0 : Int) (l1 : List (List Int)) (a2 : Int) : Option Bool := if l1.length ≤ 40 then (spec_wiAll.f k a0 a2).bind fun all => if all.length ≤ 1000000000 then spec_wiTells.l0 k l1 all (List.replicate (2 ^ l1.length) false) 0 else none else none
theorem spec_wiTells.mono_l : ∀ k tests all seen i, LeO (spec_wiTells.l0 k tests all seen i) (spec_wiTells.l0 (k + 1) tests all seen i)
  | 0, _, _, _, _ => fun r h => by simp [spec_wiTells.l0] at h
  | k + 1, tests, all, seen, i => by
    unfold spec_wiTells.l0
    exact LeO.ite (LeO.bind (spec_wiBits.mono _ _) (fun _ => LeO.bind (spec_wiResults.mono _ _ _) (fun _ => LeO.ite (LeO.ite (LeO.ite (LeO.refl _) (spec_wiTells.mono_l k _ _ _ _)) (LeO.none _)) (LeO.none _)))) (LeO.refl _)
theorem spec_wiTells.mono : ∀ a0 l1 a2 k, LeO (spec_wiTells.f k a0 l1 a2) (spec_wiTells.f (k + 1) a0 l1 a2) := fun _ _ _ k => LeO.ite (LeO.bind (spec_wiAll.mono _ _ _) (fun _ => LeO.ite (spec_wiTells.mono_l k _ _ _ _) (LeO.none _))) (LeO.none _)
set_option maxHeartbeats 4000000 in
set_option maxRecDepth 100000 in
theorem spec_wiTells.calls (k : Nat) (a0 : Int) (A1 : Option Addr) (c1 : Nat) (l1 : List (List Int)) (a2 : Int) (r : Bool) (w : World) (hr1 : Kd.C (Kd.slice 3 (Kd.int .i64)) w A1 l1.length l1) (hc1 : l1.length ≤ c1) (h : spec_wiTells.f k a0 l1 a2 = some r) :
    Calls Try.prog 32 #[.int .i64 a0, .slice A1 l1.length c1, .int .i64 a2] w fun e w' => e = .returned (.bool r) ∧ Below w.heap.size w w' := by
  unfold spec_wiTells.f at h
  by_cases hn : l1.length ≤ 40
  case neg => rw [if_neg hn] at h; cases h
  rw [if_pos hn] at h
  replace h := Option.bind_eq_some_iff.mp h
  obtain ⟨all, hall, h⟩ := h
  by_cases hal : all.length ≤ 1000000000
  case neg => rw [if_neg hal] at h; cases h
  rw [if_pos hal] at h
  have HR := Aside0.mk hr1
  have HC := Aside0.mk hc1
  have HN := Aside0.mk hn
  have HALL := Aside0.mk hall
  have HAL := Aside0.mk hal
  have hp : (2 : Nat) ^ l1.length ≤ 2 ^ 40 := Nat.pow_le_pow_right (by decide) hn
  obtain ⟨M, hM⟩ : ∃ M : Nat, M = 2 ^ l1.length := ⟨_, rfl⟩
  rw [← hM] at h hp
  have H := Aside0.mk h
  have hsh : wrap64 (2 ^ min l1.length 64) = (M : Int) := by
    rw [Nat.min_eq_left (by omega), show ((2 : Int) ^ l1.length) = ((2 ^ l1.length : Nat) : Int) by simp, ← hM]
    unfold wrap64
    omega
  have HM := Aside0.mk hM
  have HSH := Aside0.mk hsh
  clear hsh
  have HP := Aside0.mk hp
  have h64 : decide (0 ≤ (l1.length : Int)) = true := decide_eq_true (by omega)
  clear h hr1 hc1 hn hall hal hp hM
  go_enter Try.func32, Try.ntmps32
  go_wp2_with ((with_reducible refine gate_dst (N := 16) rfl ?_); refine Kd.R_make Kd.bool (w0 := w) w.heap.size 4 rfl (N := 16) rfl 53 _ _ rfl (wrap64 (2 ^ min l1.length 64)) rfl rfl Try.underlying53 (.bool false) 1 spec_wiTells.info4 rfl (by decide) (by omega) false (ok := fun _ => True) (okp := fun _ => True) rfl (fun _ hk => hk) trivial (by rw [HSH.out]; omega) ?hl (by repeat (first | exact Below.refl _ _ | apply pw_below_drewN | apply below_drew1)) (Nat.le_refl _) ?_; (case hl => have := HP.out; rw [HSH.out]; simp only [Int.toNat_natCast]; omega); intro v1 w1 ho1 hb1 hg_ hnew_; clear hg_; rw [HSH.out, Int.toNat_natCast] at ho1; have O1 := Aside0.mk ho1; have B1 := Aside0.mk hb1; have NE1 := Aside0.mk hnew_; clear ho1 hb1 hnew_)
  refine (spec_wiAll.calls k a0 a2 all _ HALL.out).mono ?_
  rintro e w2 ⟨v2, rfl, hv, hb⟩
  have O2 := Aside0.mk (Kd.R_below O1.out (below_step (by repeat (first | exact Below.refl _ _ | apply pw_below_drewN | apply below_drew1)) hb))
  have B2 := Aside0.mk (below_step (by repeat (first | exact B1.out | apply pw_below_drewN | apply below_drew1)) hb)
  have N2 := Aside0.mk (Kd.N_mono hv (ok' := fun k => w1.heap.size ≤ k) (fun k hk => hk))
  have LT1 : ∀ kk, v1.ownBlock = some kk → kk < w1.heap.size := Kd.R_lt O1.out
  have hMp : 0 < M := by rw [HM.out]; exact Nat.pow_pos (by decide)
  obtain ⟨g, cc, ev, gb, gl, cl, HG⟩ := Kd.R_form O2.out (by rw [List.length_replicate]; exact hMp)
  rw [List.length_replicate] at ev
  subst ev
  have GB := Aside0.mk gb
  have GL := Aside0.mk (show g < w1.heap.size from LT1 g (by simp [Value.ownBlock]))
  obtain ⟨A2, c2, rfl, hc2, hC2⟩ := Kd.N_reads N2.out
  have L0 : Aside0 ((List.replicate M false).length = M) := ⟨List.length_replicate⟩
  clear hv hb O1 LT1 hMp gb gl HG hc2 hC2 NE1 B1
  go_wp2_with fail
  go_loopg [21] k (fun gg v21 wr => ∃ (i : Nat) (seen : List Bool), v21 = .int .i64 (i : Int) ∧ Aside0 (spec_wiTells.l0 gg l1 all seen i = some r) ∧ Aside0 (seen.length = M) ∧ Aside0 (Kd.R Kd.bool 4 wr w.heap.size (fun _ => True) (.slice (some ⟨g, 0, none⟩) M cc) seen) ∧ Aside0 (Kd.N (Kd.slice 3 (Kd.int .i64)) 32 wr w1.heap.size (fun k => w1.heap.size ≤ k) (.slice A2 all.length c2) all) ∧ Aside0 (Below w.heap.size w wr))
  case atStart => exact ⟨0, _, rfl, H, L0, O2, N2, B2⟩
  case round =>
    clear H L0 O2 N2 B2
    obtain ⟨i, seen, rfl, HA, SL, O, N, BW⟩ := hrel
    cases gk with
    | zero => exact absurd HA.out (by simp [spec_wiTells.l0])
    | succ k1 =>
      have H := HA.out
      clear HA
      simp only [spec_wiTells.l0] at H
      by_cases b0 : i < all.length
      · rw [if_pos b0] at H
        replace H := Option.bind_eq_some_iff.mp H
        obtain ⟨b, hb, H⟩ := H
        replace H := Option.bind_eq_some_iff.mp H
        obtain ⟨s, hs, H⟩ := H
        by_cases b1 : s.size ≤ 40
        case neg => rw [if_neg b1] at H; cases H
        rw [if_pos b1] at H
        by_cases b2 : spec_wiTells.p_val s s.size < seen.length
        case neg => rw [if_neg b2] at H; cases H
        rw [if_pos b2] at H
        have hup : wrap64 ((i : Int) + 1) = ((i + 1 : Nat) : Int) := by have := HAL.out; unfold wrap64; omega
        obtain ⟨ad, A3, c3, e3, hx, hl, hi⟩ := at_L1 (Kd.N_reads' N.out).2.2 (i : Int) (by omega) (by omega)
        cases e3
        have e4 : rd_L1 all (i : Int) = all.getD i [] := by unfold rd_L1; simp
        rw [e4] at hx hl hi
        obtain ⟨row, erow⟩ : ∃ q, q = all.getD i [] := ⟨_, rfl⟩
        rw [← erow] at hx hl hi hb
        clear erow
        have p0 : (i < all.length) = True := eq_true b0
        have p1 : ((i : Int) < (all.length : Int)) = True := eq_true (by omega)
        have HB := Aside0.mk hb
        have HS := Aside0.mk hs
        have HB1 := Aside0.mk b1
        have HB2 := Aside0.mk b2
        have H' := Aside0.mk H
        have HUP := Aside0.mk hup
        have HI := Aside0.mk hi
        have HL := Aside0.mk hl
        have b0b : decide (i < all.length) = true := decide_eq_true b0
        have b0c : decide ((i : Int) < (all.length : Int)) = true := decide_eq_true (by omega)
        have B0 := Aside0.mk b0
        rw [Int.toNat_natCast] at hx
        clear H hb hs b1 b2 hup hi hl e4 b0
        go_wp2_with fail
        refine (spec_wiBits.calls k1 A3 c3 _ b _ (Kd.C_below HI.out (by repeat (first | exact Below.refl _ _ | apply pw_below_drewN | apply below_drew1))) HL.out HB.out).mono ?_
        rintro e w3 ⟨rfl, ⟨nd, rfl⟩⟩
        go_wp2_with fail
        refine (spec_wiResults.calls k1 A1 c1 l1 b s _ (Kd.C_below HR.out (by repeat (first | exact BW.out | apply pw_below_drewN | apply below_drew1))) HC.out HS.out).mono ?_
        rintro e w4 ⟨rfl, ⟨nd4, rfl⟩⟩
        have B4 := Aside0.mk (show Below wr.heap.size wr ((wr.drewN nd).drewN nd4) by repeat (first | exact Below.refl _ _ | apply pw_below_drewN))
        have O4 := Aside0.mk (Kd.R_below O.out B4.out)
        have N4 := Aside0.mk (Kd.N_below N.out B4.out)
        have BW4 := Aside0.mk (below_step BW.out B4.out)
        generalize (wr.drewN nd).drewN nd4 = w4 at O4 N4 BW4 ⊢
        clear O N BW B4 hx HI HL HB HS
        have kb := fun W => print_bytes (P := Try.prog) 9 55 5 Try.underlying9 Try.underlying55 Try.underlying5 s W
        go_wp2_with fail
        have C5 : Aside0 (∀ j : Nat, j < s.size → (Lib.bytesWorld w4 5 s).cell? ⟨w4.heap.size, j, none⟩ = some (.int .u8 (rd (bytesOf s) (j : Int)))) := ⟨fun j hj => by
          obtain ⟨ad, e1, e2⟩ := (bytes_reads w4 5 s (by have := HB1.out; omega)).at_ (j : Int) (by omega) (by omega)
          injection e1 with e1
          subst e1
          rw [Int.toNat_natCast, add_plain] at e2
          exact e2⟩
        have B5 := Aside0.mk (bytes_below (Below.refl w4.heap.size w4) (Nat.le_refl _) 5 s)
        have O5 := Aside0.mk (Kd.R_below O4.out B5.out)
        have N5 := Aside0.mk (Kd.N_below N4.out B5.out)
        have BW5 := Aside0.mk (below_step BW4.out B5.out)
        have L5 : Aside0 (w4.heap.size < (Lib.bytesWorld w4 5 s).heap.size) := ⟨by rw [Lib.bytesWorld_size]; omega⟩
        generalize w4.heap.size = g5 at C5 L5 ⊢
        generalize Lib.bytesWorld w4 5 s = w5 at C5 O5 N5 BW5 L5 ⊢
        clear kb O4 N4 BW4 B5
        go_loopg [10, 31] s.size (fun g2 v10 v31 wi => ∃ x : Nat, v31 = .int .i64 (x : Int) ∧ v10 = .int .i64 ((spec_wiTells.p_val s x : Nat) : Int) ∧ Aside0 (x ≤ s.size ∧ s.size - x ≤ g2) ∧ Aside0 (Below w5.heap.size w5 wi))
        case atStart => exact ⟨0, rfl, rfl, ⟨Nat.zero_le _, Nat.le_refl _⟩, ⟨Below.refl _ _⟩⟩
        case round =>
          obtain ⟨x, rfl, rfl, HX, BI⟩ := hrel
          by_cases hlt : x < s.size
          · have hx := C5.out x hlt
            replace hx := (BI.out.cell (World.block_lt_of_cell? _ _ hx)).trans hx
            have hvs := spec_wiTells.val_succ s x
            have hvl := spec_wiTells.val_lt s x
            have h49 := HB1.out
            have hpw : (2 : Nat) ^ x ≤ 2 ^ 40 := Nat.pow_le_pow_right (by decide) (by omega)
            obtain ⟨p, hp⟩ : ∃ p, p = spec_wiTells.p_val s x := ⟨_, rfl⟩
            obtain ⟨pw, hpw2⟩ : ∃ pw : Nat, pw = 2 ^ x := ⟨_, rfl⟩
            rw [← hp, ← hpw2] at hvs
            rw [← hp, ← hpw2] at hvl
            rw [← hpw2] at hpw
            have s1 : wrap64 (2 ^ min x 64) = (pw : Int) := by
              rw [Nat.min_eq_left (by omega), show ((2 : Int) ^ x) = ((2 ^ x : Nat) : Int) by simp, ← hpw2]
              unfold wrap64
              omega
            have s2 : wrap64 ((p : Int) + (pw : Int)) = ((p + pw : Nat) : Int) := by unfold wrap64; omega
            have S1 := Aside0.mk s1
            have S2 := Aside0.mk s2
            have VS := Aside0.mk hvs
            have HUX := Aside0.mk (show wrap64 ((x : Int) + 1) = ((x + 1 : Nat) : Int) by unfold wrap64; omega)
            rw [← hp]
            have d1 : decide ((x : Int) < (s.size : Int)) = true := decide_eq_true (by omega)
            have d0 : decide (x < s.size) = true := decide_eq_true hlt
            have q0 : (x < s.size) = True := eq_true hlt
            have q1 : ((x : Int) < (s.size : Int)) = True := eq_true (by omega)
            have q2 : decide (0 ≤ (x : Int)) = true := decide_eq_true (by omega)
            have HLT := Aside0.mk hlt
            generalize rd (bytesOf s) (x : Int) = ch at hx VS
            clear hvs hvl h49 hpw hp hpw2 s1 s2 hlt
            by_cases hch : ch = 49
            · subst hch
              go_wp2_with fail
              go_roundg (s.size - (x + 1))
              case measure => have := HX.out; have := HLT.out; omega
              case rel =>
                refine ⟨x + 1, by rw [HUX.out], ?_, ⟨by have := HLT.out; omega, by omega⟩, BI⟩
                rw [S1.out, S2.out, VS.out]; simp
            · have e1 : decide (ch = 49) = false := decide_eq_false hch
              go_wp2_with fail
              go_roundg (s.size - (x + 1))
              case measure => have := HX.out; have := HLT.out; omega
              case rel =>
                refine ⟨x + 1, by rw [HUX.out], ?_, ⟨by have := HLT.out; omega, by omega⟩, BI⟩
                rw [VS.out, if_neg hch, Nat.add_zero]
          · have d1 : decide ((x : Int) < (s.size : Int)) = false := decide_eq_false (by omega)
            have d0 : decide (x < s.size) = false := decide_eq_false hlt
            have e : x = s.size := by have := HX.out; omega
            subst e
            have O6 := Aside0.mk (Kd.R_below O5.out BI.out)
            have N6 := Aside0.mk (Kd.N_below N5.out BI.out)
            have BW6 := Aside0.mk (below_step BW5.out BI.out)
            clear O5 N5 BW5 BI hlt
            have hv2 := HB2.out
            obtain ⟨n, hn⟩ : ∃ n, n = spec_wiTells.p_val s s.size := ⟨_, rfl⟩
            rw [← hn] at hv2 H' ⊢
            have sl := SL.out
            have p3 : 0 ≤ (n : Int) := by omega
            have p4 : (n : Int) < (M : Int) := by omega
            obtain ⟨hx0, hf0⟩ := Kd.R_celln false O6.out (n : Int) p3 p4
            rw [Int.toNat_natCast] at hx0 hf0
            have er : rdOf false seen (n : Int) = seen.getD n false := by unfold rdOf; simp
            rw [er] at hx0
            have p5 : (n < M) = True := eq_true (by omega)
            have p6 : ((n : Int) < (M : Int)) = True := eq_true p4
            have HP10 := Kd.R_putg O6.out (n : Int) true
            rw [Int.toNat_natCast] at HP10
            have GG := GL.out
            clear hn er sl hv2
            replace p3 := eq_true p3
            generalize seen.getD n false = sb at hx0 H'
            cases sb with
            | true =>
              have h := H'.out
              rw [if_pos rfl] at h
              obtain rfl := Option.some.inj h
              clear h H'
              clear HP10
              go_wp2
              go_ret
              exact ⟨rfl, BW6.out⟩
            | false =>
              have h := H'.out
              rw [if_neg (by decide)] at h
              have H7 := Aside0.mk h
              clear h H'
              go_wp2_with ((with_reducible refine gate_store (t := 4) (p := 49) rfl ?_); refine store_event (t := 4) (p := 49) (v := ?vo_w11) (w1 := (wr.setCell ⟨g, n, none⟩ (.bool true))) ?hg ?ho ?hn ?hr ?_; (case ho => rfl); (case hg => rfl); (case hn => rfl); (case hr => first | (go_simp; done) | (go_simp; rfl)); intro w11 hw; have hg : wr.grownBy w11 (some g) := (by rw [hw]; exact HP10.2); have O7 := Aside0.mk (show Kd.R Kd.bool 4 w11 w.heap.size (fun _ => True) (.slice (some ⟨g, 0, none⟩) M cc) (seen.set n true) by rw [hw]; exact HP10.1); have N7 := Aside0.mk (Kd.N_grown N6.out hg (fun kk hk e => by injection e with e; rw [e] at hk; exact Nat.lt_irrefl _ (Nat.lt_of_lt_of_le GG hk))); have BW7 := Aside0.mk (show Below w.heap.size w w11 by rw [hw]; exact below_set BW6.out GB.out); clear HP10 O6 N6 BW6 hg hw)
              go_roundg k1
              case measure => omega
              case rel => exact ⟨i + 1, _, by rw [HUP.out], H7, ⟨by rw [List.length_set]; exact SL.out⟩, O7, N7, BW7⟩
      · rw [if_neg b0] at H
        have b0b : decide (i < all.length) = false := decide_eq_false b0
        have b0c : decide ((i : Int) < (all.length : Int)) = false := decide_eq_false (by omega)
        obtain rfl := Option.some.inj H
        clear b0 H
        go_wp2
        go_ret
        exact ⟨rfl, BW.out⟩


/-! ### spec_wiLess: function 36 -/
def spec_wiLess.f (l0 : List (List Int)) (a1 : Int) : Option ((List (List Int))) := (some (([] : List (List Int)) : List (List Int))).bind fun y159 => (if 0 ≤ a1 then (if a1 ≤ (l0.length : Int) then ((some (l0.take (a1 : Int).toNat : List (List Int))).bind fun y162 => (if y159.length + y162.length < 5864062014805 then ((some (y159 ++ y162 : List (List Int))).bind fun y167 => (if 0 ≤ (wrap64 (a1 + 1)) then (if (wrap64 (a1 + 1)) ≤ (l0.length : Int) then ((some (l0.drop ((wrap64 (a1 + 1)) : Int).toNat : List (List Int))).bind fun y170 => (if y167.length + y170.length < 5864062014805 then (some (y167 ++ y170)) else (none))) else (none)) else (none))) else (none))) else (none)) else (none))
def spec_wiLess.T1 : Bool × List (List Nat × List Nat) := (true, [([], []), ([], []), ([], []), ([1, 2], [1, 2]), ([0, 3], [0, 3]), ([], []), ([], []), ([6], [6]), ([5, 7], [5, 7]), ([4, 8, 4], [4, 8]), ([9, 9, 0, 1, 2, 3, 4, 5, 6, 7, 8, 9], [9])])
def spec_wiLess.B1 : List Nat := [0, 0, 0, 6, 15, 0, 0, 64, 224, 511, 1023]
theorem spec_wiLess.tab1 : rtab .any (opsOf Try.f36 1) = spec_wiLess.T1 := by kernel_rfl
theorem spec_wiLess.bits1 : waitsOk spec_wiLess.T1.2 spec_wiLess.B1 = true := by kernel_rfl
set_option maxHeartbeats 8000000 in
set_option maxRecDepth 100000 in
theorem spec_wiLess.calls (P0_ : Nat → Prop) (A0 : Option Addr) (c0 : Nat) (l0 : List (List Int)) (a1 : Int) (r : List (List Int)) (w : World) (hs0 : Kd.V (Kd.slice 3 (Kd.int .i64)) 32 w w.heap.size (fun k_ => P0_ k_) (.slice A0 l0.length c0) l0) (h : spec_wiLess.f l0 a1 = some r) :
    Calls Try.prog 36 #[.slice A0 l0.length c0, .int .i64 a1] w fun e w' => ∃ v0_ : Value, e = .returned (v0_) ∧ Kd.N (Kd.slice 3 (Kd.int .i64)) 32 w' w.heap.size (fun k_ => (P0_ k_ ∨ w.heap.size ≤ k_)) v0_ r ∧ Below w.heap.size w w' := by
  have HO0 := Aside0.mk (show Kd.V (Kd.slice 3 (Kd.int .i64)) 32 w w.heap.size (fun k_ => (P0_ k_ ∨ w.heap.size ≤ k_)) (.slice A0 l0.length c0) l0 from Kd.V_mono hs0 (fun k_ hk => .inl hk))
  have HB := Aside0.mk (Below.refl w.heap.size w)
  have H : ((some (([] : List (List Int)) : List (List Int))).bind fun y159 => (if 0 ≤ a1 then (if a1 ≤ (l0.length : Int) then ((some (l0.take (a1 : Int).toNat : List (List Int))).bind fun y162 => (if y159.length + y162.length < 5864062014805 then ((some (y159 ++ y162 : List (List Int))).bind fun y167 => (if 0 ≤ (wrap64 (a1 + 1)) then (if (wrap64 (a1 + 1)) ≤ (l0.length : Int) then ((some (l0.drop ((wrap64 (a1 + 1)) : Int).toNat : List (List Int))).bind fun y170 => (if y167.length + y170.length < 5864062014805 then (some (y167 ++ y170)) else (none))) else (none)) else (none))) else (none))) else (none)) else (none))) = some r := h
  clear h
  obtain ⟨y159, hy159⟩ : ∃ y_ : List (List Int), y_ = (([] : List (List Int))) := ⟨_, rfl⟩
  replace H : (if 0 ≤ a1 then (if a1 ≤ (l0.length : Int) then ((some (l0.take (a1 : Int).toNat : List (List Int))).bind fun y162 => (if y159.length + y162.length < 5864062014805 then ((some (y159 ++ y162 : List (List Int))).bind fun y167 => (if 0 ≤ (wrap64 (a1 + 1)) then (if (wrap64 (a1 + 1)) ≤ (l0.length : Int) then ((some (l0.drop ((wrap64 (a1 + 1)) : Int).toNat : List (List Int))).bind fun y170 => (if y167.length + y170.length < 5864062014805 then (some (y167 ++ y170)) else (none))) else (none)) else (none))) else (none))) else (none)) else (none)) = some r := by first | (rw [hy159]; with_reducible exact H) | (have H2_ := (Option.bind_some _ _).symm.trans H; rw [hy159]; with_reducible exact H2_) | (have H2_ := (Option.bind_some _ _).symm.trans H; with_reducible exact H2_) | with_reducible exact H | (rw [hy159]; exact H) | exact H
  have Ny159 := Aside0.mk hy159
  clear hy159
  by_cases c3 : 0 ≤ a1
  · rw [if_pos c3] at H
    have c3b0 := eq_true c3
    have c3b1 : decide (0 ≤ a1) = true := decide_eq_true c3
    clear c3
    by_cases c4 : a1 ≤ (l0.length : Int)
    · rw [if_pos c4] at H
      have c4b0 := eq_true c4
      have c4b1 : decide (a1 ≤ (l0.length : Int)) = true := decide_eq_true c4
      clear c4
      obtain ⟨y162, hy162⟩ : ∃ y_ : List (List Int), y_ = (l0.take (a1 : Int).toNat) := ⟨_, rfl⟩
      replace H : (if y159.length + y162.length < 5864062014805 then ((some (y159 ++ y162 : List (List Int))).bind fun y167 => (if 0 ≤ (wrap64 (a1 + 1)) then (if (wrap64 (a1 + 1)) ≤ (l0.length : Int) then ((some (l0.drop ((wrap64 (a1 + 1)) : Int).toNat : List (List Int))).bind fun y170 => (if y167.length + y170.length < 5864062014805 then (some (y167 ++ y170)) else (none))) else (none)) else (none))) else (none)) = some r := by first | (rw [hy162]; with_reducible exact H) | (have H2_ := (Option.bind_some _ _).symm.trans H; rw [hy162]; with_reducible exact H2_) | (have H2_ := (Option.bind_some _ _).symm.trans H; with_reducible exact H2_) | with_reducible exact H | (rw [hy162]; exact H) | exact H
      have Ny162 := Aside0.mk hy162
      clear hy162
      by_cases c5 : y159.length + y162.length < 5864062014805
      · rw [if_pos c5] at H
        have LMc5 := Aside0.mk c5
        clear c5
        obtain ⟨y167, hy167⟩ : ∃ y_ : List (List Int), y_ = (y159 ++ y162) := ⟨_, rfl⟩
        replace H : (if 0 ≤ (wrap64 (a1 + 1)) then (if (wrap64 (a1 + 1)) ≤ (l0.length : Int) then ((some (l0.drop ((wrap64 (a1 + 1)) : Int).toNat : List (List Int))).bind fun y170 => (if y167.length + y170.length < 5864062014805 then (some (y167 ++ y170)) else (none))) else (none)) else (none)) = some r := by first | (rw [hy167]; with_reducible exact H) | (have H2_ := (Option.bind_some _ _).symm.trans H; rw [hy167]; with_reducible exact H2_) | (have H2_ := (Option.bind_some _ _).symm.trans H; with_reducible exact H2_) | with_reducible exact H | (rw [hy167]; exact H) | exact H
        have Ny167 := Aside0.mk hy167
        clear hy167
        obtain ⟨ji6, hji6⟩ : ∃ j_ : Int, (wrap64 (a1 + 1)) = j_ := ⟨_, rfl⟩
        replace H : (if 0 ≤ (ji6) then (if (ji6) ≤ (l0.length : Int) then ((some (l0.drop ((ji6) : Int).toNat : List (List Int))).bind fun y170 => (if y167.length + y170.length < 5864062014805 then (some (y167 ++ y170)) else (none))) else (none)) else (none)) = some r := by first | (rw [hji6] at H; exact H) | (simp only [hji6] at H ⊢; exact H)
        have hji6w : (IntKind.i64.wrap (a1 + 1)) = ji6 := (i64_w _).trans hji6
        by_cases c7 : 0 ≤ (ji6)
        · rw [if_pos c7] at H
          have c7b0 := eq_true c7
          have c7b1 : decide (0 ≤ (ji6)) = true := decide_eq_true c7
          clear c7
          by_cases c8 : (ji6) ≤ (l0.length : Int)
          · rw [if_pos c8] at H
            have c8b0 := eq_true c8
            have c8b1 : decide ((ji6) ≤ (l0.length : Int)) = true := decide_eq_true c8
            clear c8
            obtain ⟨y170, hy170⟩ : ∃ y_ : List (List Int), y_ = (l0.drop ((ji6) : Int).toNat) := ⟨_, rfl⟩
            replace H : (if y167.length + y170.length < 5864062014805 then (some (y167 ++ y170)) else (none)) = some r := by first | (rw [hy170]; with_reducible exact H) | (have H2_ := (Option.bind_some _ _).symm.trans H; rw [hy170]; with_reducible exact H2_) | (have H2_ := (Option.bind_some _ _).symm.trans H; with_reducible exact H2_) | with_reducible exact H | (rw [hy170]; exact H) | exact H
            have Ny170 := Aside0.mk hy170
            clear hy170
            by_cases c9 : y167.length + y170.length < 5864062014805
            · rw [if_pos c9] at H
              have LMc9 := Aside0.mk c9
              clear c9
              obtain ⟨y175, hy175⟩ : ∃ y_ : List (List Int), y_ = (y167 ++ y170) := ⟨_, rfl⟩
              replace H : (some y175) = some r := by first | (rw [hy175]; with_reducible exact H) | (have H2_ := (Option.bind_some _ _).symm.trans H; rw [hy175]; with_reducible exact H2_) | (have H2_ := (Option.bind_some _ _).symm.trans H; with_reducible exact H2_) | with_reducible exact H | (rw [hy175]; exact H) | exact H
              have Ny175 := Aside0.mk hy175
              clear hy175
              obtain rfl := Option.some.inj H
              go_enter Try.func36, Try.ntmps36
              try go_wp2
              have n0_ := Aside0.mk (Kd.V_drew HO0.out)
              have n1_ := Aside0.mk (below_drew1 HB.out)
              clear HO0
              clear HB
              have HO0 := n0_
              have HB := n1_
              clear n0_ n1_
              have q11 : (a1 : Int) ≤ ((l0.length : Int) : Int) := of_decide_eq_true (by first | (with_reducible assumption) | assumption)
              obtain ⟨i011, hi011, _, hsz11, _⟩ := info_parts info32
              have hroom11 : l0.length ≤ c0 := (Kd.V_reads' HO0.out).2.1
              have hC11 : Kd.F (Kd.slice 3 (Kd.int .i64)) _ _ A0 l0.length l0 := (Kd.V_at (base := w.heap.size) HO0.out).2.2
              have hcut11 := cut_to (P := Try.prog) 22 32 .i64 Try.underlying22 hi011 A0 l0.length c0 a1 (of_decide_eq_true (by first | (with_reducible assumption) | assumption)) q11 hroom11
              have hr11 := Kd.F_take (m := (a1 : Int).toNat) hC11 (by omega)
              have hy11 : y162.length = (a1 : Int).toNat := (by rw [Ny162.out, List.length_take]; omega)
              rw [← Ny162.out] at hr11
              rw [← hy11] at hcut11
              have HO166 := Aside0.mk (show Kd.V (Kd.slice 3 (Kd.int .i64)) 32 _ w.heap.size _ (.slice A0 y162.length c0) y162 from Kd.V_mk (by omega) hr11)
              have HC166 := Aside0.mk (show y162.length ≤ c0 from by omega)
              clear hr11 hC11 hroom11 hi011 hsz11
              have KY11 := Aside0.mk hy11
              clear hy11
              replace q11 := eq_true q11
              have q12 : ((ji6) : Int) ≤ ((l0.length : Int) : Int) := of_decide_eq_true (by first | (with_reducible assumption) | assumption)
              obtain ⟨i012, hi012, _, hsz12, _⟩ := info_parts info32
              have hroom12 : l0.length ≤ c0 := (Kd.V_reads' HO0.out).2.1
              have hC12 : Kd.F (Kd.slice 3 (Kd.int .i64)) _ _ A0 l0.length l0 := (Kd.V_at (base := w.heap.size) HO0.out).2.2
              have q012 : (0 : Int) ≤ ((ji6) : Int) := of_decide_eq_true (by first | (with_reducible assumption) | assumption)
              have hcut12 := cut_from (P := Try.prog) 22 32 .i64 Try.underlying22 hi012 1 hsz12 A0 l0.length c0 (ji6) q012 q12
              have hr12 := Kd.F_cut (m := ((ji6) : Int).toNat) (c := c0) hC12 (by omega) hroom12
              obtain ⟨A12, hA12⟩ : ∃ Az_, Az_ = (if c0 = ((ji6) : Int).toNat then A0 else (A0 : Option Addr).map (·.add (((ji6) : Int).toNat * 1))) := ⟨_, rfl⟩
              obtain ⟨c12, hc12⟩ : ∃ cz_, cz_ = c0 - ((ji6) : Int).toNat := ⟨_, rfl⟩
              have hy12 : y170.length = l0.length - ((ji6) : Int).toNat := (by rw [Ny170.out, List.length_drop] <;> omega)
              rw [show (l0).drop ((ji6) : Int).toNat = y170 from Ny170.out.symm] at hr12
              replace hr12 : Kd.F (Kd.slice 3 (Kd.int .i64)) _ _ A12 y170.length y170 := (by rw [hA12]; exact hr12)
              rw [← hy12, ← hA12, ← hc12] at hcut12
              have HO174 := Aside0.mk (show Kd.V (Kd.slice 3 (Kd.int .i64)) 32 _ w.heap.size _ (.slice A12 y170.length c12) y170 from Kd.V_mk (by rw [hy12, hc12]; exact Nat.sub_le_sub_right hroom12 _) hr12)
              have HC174 := Aside0.mk (show y170.length ≤ c12 from by rw [hy12, hc12]; exact Nat.sub_le_sub_right hroom12 _)
              clear hr12 hC12 hroom12 hi012 hsz12 hc12
              have KY12 := Aside0.mk hy12
              have KA12 := Aside0.mk hA12
              clear hy12 hA12
              replace q12 := eq_true q12
              refine start_ (n := 11) (S := fun w' => True) (ds := []) #[false, false, false, false, false, false, false, false, false, false, false] (by kernel_rfl) rfl rfl trivial (fun hHeld => ?_); refine with_tabW spec_wiLess.tab1 spec_wiLess.bits1 (fun HT_ HW_ => ?_)
              generalize w.drew = w10 at HO0 HB HO166 HO174 hHeld ⊢
              refine pure_ (i := 1) (N := some 6) (v := ?_) (a' := ?_) #[false, true, false, false, false, false, false, false, false, false, false] rfl rfl (any_of HT_.out (by kernel_rfl)) (fun _ _ _ h => h) (Or.inl ⟨by rfl, ?_⟩) ?_ ?_
              rotate_left
              · intro w'
                go_simp
                with_reducible rfl
              rotate_left
              · simp only [Act.put, List.setIfInBounds_toArray, List.set_cons_zero, List.set_cons_succ, i64_w, i32_w]
                rfl
              refine pure_ (i := 2) (N := some 7) (v := ?_) (a' := ?_) #[false, true, true, false, false, false, false, false, false, false, false] rfl rfl (any_of HT_.out (by kernel_rfl)) (fun _ _ _ h => h) (Or.inl ⟨by rfl, ?_⟩) ?_ ?_
              rotate_left
              · intro w'
                go_simp
                with_reducible rfl
              rotate_left
              · simp only [Act.put, List.setIfInBounds_toArray, List.set_cons_zero, List.set_cons_succ, i64_w, i32_w]
                rfl
              refine pure_ (i := 3) (N := some 8) (v := ?_) (a' := ?_) #[false, true, true, true, false, false, false, false, false, false, false] rfl rfl (any_of HT_.out (by kernel_rfl)) (fun _ _ _ h => h) (Or.inl ⟨by rfl, ?_⟩) ?_ ?_
              rotate_left
              · intro w'
                go_simp
                with_reducible rfl
              rotate_left
              · simp only [Act.put, List.setIfInBounds_toArray, List.set_cons_zero, List.set_cons_succ, i64_w, i32_w]
                rfl
              refine pure_ (i := 5) (N := some 10) (v := ?_) (a' := ?_) #[false, true, true, true, false, true, false, false, false, false, false] rfl rfl (any_of HT_.out (by kernel_rfl)) (fun _ _ _ h => h) (Or.inl ⟨by rfl, ?_⟩) ?_ ?_
              rotate_left
              · intro w'
                go_simp
                with_reducible rfl
              rotate_left
              · simp only [Act.put, List.setIfInBounds_toArray, List.set_cons_zero, List.set_cons_succ, i64_w, i32_w]
                rfl
              refine pure_ (i := 6) (N := some 11) (v := ?_) (a' := ?_) #[false, true, true, true, false, true, true, false, false, false, false] rfl rfl (any_of HT_.out (by kernel_rfl)) (fun _ _ _ h => h) (Or.inl ⟨by rfl, ?_⟩) ?_ ?_
              rotate_left
              · intro w'
                go_simp
                with_reducible rfl
              rotate_left
              · simp only [Act.put, List.setIfInBounds_toArray, List.set_cons_zero, List.set_cons_succ, i64_w, i32_w]
                rfl
              refine pure_ (i := 7) (N := some 12) (v := ?_) (a' := ?_) #[false, true, true, true, false, true, true, true, false, false, false] rfl rfl (any_of HT_.out (by kernel_rfl)) (fun _ _ _ h => h) (Or.inl ⟨by rfl, ?_⟩) ?_ ?_
              rotate_left
              · intro w'
                go_simp
                with_reducible rfl
              rotate_left
              · simp only [Act.put, List.setIfInBounds_toArray, List.set_cons_zero, List.set_cons_succ, i64_w, i32_w]
                rfl
              refine pure_ (i := 8) (N := some 13) (v := ?_) (a' := ?_) #[false, true, true, true, false, true, true, true, true, false, false] rfl rfl (any_of HT_.out (by kernel_rfl)) (fun _ _ _ h => h) (Or.inl ⟨by rfl, ?_⟩) ?_ ?_
              rotate_left
              · intro w'
                go_simp
                with_reducible rfl
              rotate_left
              · simp only [Act.put, List.setIfInBounds_toArray, List.set_cons_zero, List.set_cons_succ, i64_w, i32_w]
                rfl
              refine one_ (i := 0) (N := some 5) #[true, true, true, true, false, true, true, true, true, false, false] rfl rfl (one_of HT_.out (by kernel_rfl)) (by decide) (fun K hK => ?_)
              refine Kd.N_lit_step (Kd.slice 3 (Kd.int .i64)) _ 32 ?hg (N' := 5) ?hd (xs := ([] : List (List Int))) (inner := []) (ok := (fun k_ => (P0_ k_ ∨ w.heap.size ≤ k_))) (okp := (fun k_ => (P0_ k_ ∨ w.heap.size ≤ k_))) ?hr ?hp (fun _ hk => hk) ((show ∀ k_, w10.heap.size ≤ k_ → (fun k_ => (P0_ k_ ∨ w.heap.size ≤ k_)) k_ from fun k_ hk => (.inr (Nat.le_trans (below_size (by repeat (first | (with_reducible first | exact HB.out | apply below_alloc | apply pw_below_drewN | apply below_drew1) | exact HB.out))) hk))) _ (Nat.le_refl _)) (Below.refl _ _) (Nat.le_refl _) (by simp) ?_; (case hd => rfl); (case hg => rfl); (case hr => first | (go_simp; done) | (go_simp; rfl)); (case hp => exact (Reps.none _ _))
              intro v160 w13 ho14 hb hg_ hnew_
              clear hg_ hnew_
              (first | rw [← Ny159.out] at ho14 | (simp only [Int.reduceToNat] at ho14; rw [← Ny159.out] at ho14))
              have n0_ := Aside0.mk (Kd.V_elder' (by (with_reducible repeat (first | apply Kd.V_alloc | apply Kd.V_drewN | apply Kd.V_drew)); exact HO0.out) (Kd.N_base ho14) hb)
              have n1_ := Aside0.mk (Kd.V_elder' (by (with_reducible repeat (first | apply Kd.V_alloc | apply Kd.V_drewN | apply Kd.V_drew)); exact HO166.out) (Kd.N_base ho14) hb)
              have n2_ := Aside0.mk (Kd.V_elder' (by (with_reducible repeat (first | apply Kd.V_alloc | apply Kd.V_drewN | apply Kd.V_drew)); exact HO174.out) (Kd.N_base ho14) hb)
              have n3_ := Aside0.mk (Kd.N_lower ho14 (below_size (by repeat (first | (with_reducible first | exact HB.out | apply below_alloc | apply pw_below_drewN | apply below_drew1) | exact HB.out))))
              have n4_ := Aside0.mk (below_step (by repeat (first | (with_reducible first | exact HB.out | apply below_alloc | apply pw_below_drewN | apply below_drew1) | exact HB.out)) hb)
              clear HO0
              clear HO166
              clear HO174
              clear HB
              have HO0 := n0_
              have HO166 := n1_
              have HO174 := n2_
              have HO161 := n3_
              have HB := n4_
              clear n0_ n1_ n2_ n3_ n4_
              clear hb ho14
              refine hK.out _ _ trivial (fun hHeld => ?_)
              clear hK K
              refine norm_ (a' := ?_) ?_ ?_
              rotate_left
              · show Act.put _ (some 5) _ = _
                simp only [Act.put, List.setIfInBounds_toArray, List.set_cons_zero, List.set_cons_succ, i64_w, i32_w]
                rfl
              refine one_ (i := 4) (N := some 9) #[true, true, true, true, true, true, true, true, true, false, false] rfl rfl (one_of HT_.out (by kernel_rfl)) (by decide) (fun K hK => ?_)
              refine Kd.N_append_rows_step (Kd.slice 3 (Kd.int .i64)) (w0 := w) w.heap.size (by rfl) (.tmp 5) (.tmp 8) 22 32 (.slice none 0 0) 24 rfl Try.underlying22 info32 rfl (by decide) (by omega) v160 y159 y162 _ _ _ (fun k_ => (P0_ k_ ∨ w.heap.size ≤ k_)) (fun k_ => ((fun k_ => (P0_ k_ ∨ w.heap.size ≤ k_))) k_ ∧ some k_ ≠ (v160 : Value).ownBlock) rfl rfl ?aO ?aR (fun _ hk => hk) ?aF ?aB ?aS ?aL ?_
              (case aR => exact (by skip; exact Kd.V_F (Kd.V_mono (ok' := (fun k_ => ((fun k_ => (P0_ k_ ∨ w.heap.size ≤ k_))) k_ ∧ some k_ ≠ (v160 : Value).ownBlock)) (HO166.out) (fun k_ hk => ⟨hk.1, hk.2⟩))))
              (case aB => exact (by repeat (first | (with_reducible first | exact HB.out | apply below_alloc | apply pw_below_drewN | apply below_drew1) | exact HB.out)))
              (case aF => exact (fun k_ hk => (.inr (Nat.le_trans (below_size (by repeat (first | (with_reducible first | exact HB.out | apply below_alloc | apply pw_below_drewN | apply below_drew1) | exact HB.out))) hk))))
              (case aO => exact (by (with_reducible repeat (first | apply Kd.N_alloc | apply Kd.N_drewN | apply Kd.N_drew)); exact HO161.out))
              (case aS => exact (below_size (by repeat (first | (with_reducible first | exact HB.out | apply below_alloc | apply pw_below_drewN | apply below_drew1) | exact HB.out))))
              (case aL => have := LMc5.out; omega)
              intro v168 w15 ho hb hg hat
              rw [← Ny167.out] at ho
              have n0_ := Aside0.mk (Kd.V_afterv (ok := (fun k_ => (P0_ k_ ∨ w.heap.size ≤ k_))) (by (with_reducible repeat (first | apply Kd.V_alloc | apply Kd.V_drewN | apply Kd.V_drew)); exact HO0.out) hg hat)
              have n1_ := Aside0.mk (Kd.V_afterv (ok := (fun k_ => (P0_ k_ ∨ w.heap.size ≤ k_))) (by (with_reducible repeat (first | apply Kd.V_alloc | apply Kd.V_drewN | apply Kd.V_drew)); exact HO166.out) hg hat)
              have n2_ := Aside0.mk (Kd.V_afterv (ok := (fun k_ => (P0_ k_ ∨ w.heap.size ≤ k_))) (by (with_reducible repeat (first | apply Kd.V_alloc | apply Kd.V_drewN | apply Kd.V_drew)); exact HO174.out) hg hat)
              have n3_ := Aside0.mk (hb)
              have n4_ := Aside0.mk (ho)
              clear HO0
              clear HO166
              clear HO174
              clear HB
              clear HO161
              have HO0 := n0_
              have HO166 := n1_
              have HO174 := n2_
              have HB := n3_
              have HO169 := n4_
              clear n0_ n1_ n2_ n3_ n4_
              clear ho hb hg hat
              refine hK.out _ _ trivial (fun hHeld => ?_)
              clear hK K
              refine norm_ (a' := ?_) ?_ ?_
              rotate_left
              · show Act.put _ (some 9) _ = _
                simp only [Act.put, List.setIfInBounds_toArray, List.set_cons_zero, List.set_cons_succ, i64_w, i32_w]
                rfl
              refine one_ (i := 9) (N := some 14) #[true, true, true, true, true, true, true, true, true, true, false] rfl rfl (one_of HT_.out (by kernel_rfl)) (by decide) (fun K hK => ?_)
              refine Kd.N_append_rows_step (Kd.slice 3 (Kd.int .i64)) (w0 := w) w.heap.size (by rfl) (.tmp 9) (.tmp 13) 22 32 (.slice none 0 0) 24 rfl Try.underlying22 info32 rfl (by decide) (by omega) v168 y167 y170 _ _ _ (fun k_ => (P0_ k_ ∨ w.heap.size ≤ k_)) (fun k_ => ((fun k_ => (P0_ k_ ∨ w.heap.size ≤ k_))) k_ ∧ some k_ ≠ (v168 : Value).ownBlock) rfl rfl ?aO ?aR (fun _ hk => hk) ?aF ?aB ?aS ?aL ?_
              (case aR => exact (by skip; exact Kd.V_F (Kd.V_mono (ok' := (fun k_ => ((fun k_ => (P0_ k_ ∨ w.heap.size ≤ k_))) k_ ∧ some k_ ≠ (v168 : Value).ownBlock)) (HO174.out) (fun k_ hk => ⟨hk.1, hk.2⟩))))
              (case aB => exact (by repeat (first | (with_reducible first | exact HB.out | apply below_alloc | apply pw_below_drewN | apply below_drew1) | exact HB.out)))
              (case aF => exact (fun k_ hk => (.inr (Nat.le_trans (below_size (by repeat (first | (with_reducible first | exact HB.out | apply below_alloc | apply pw_below_drewN | apply below_drew1) | exact HB.out))) hk))))
              (case aO => exact (by (with_reducible repeat (first | apply Kd.N_alloc | apply Kd.N_drewN | apply Kd.N_drew)); exact HO169.out))
              (case aS => exact (below_size (by repeat (first | (with_reducible first | exact HB.out | apply below_alloc | apply pw_below_drewN | apply below_drew1) | exact HB.out))))
              (case aL => have := LMc9.out; omega)
              intro v176 w16 ho hb hg hat
              rw [← Ny175.out] at ho
              have n0_ := Aside0.mk (Kd.V_afterv (ok := (fun k_ => (P0_ k_ ∨ w.heap.size ≤ k_))) (by (with_reducible repeat (first | apply Kd.V_alloc | apply Kd.V_drewN | apply Kd.V_drew)); exact HO0.out) hg hat)
              have n1_ := Aside0.mk (Kd.V_afterv (ok := (fun k_ => (P0_ k_ ∨ w.heap.size ≤ k_))) (by (with_reducible repeat (first | apply Kd.V_alloc | apply Kd.V_drewN | apply Kd.V_drew)); exact HO166.out) hg hat)
              have n2_ := Aside0.mk (Kd.V_afterv (ok := (fun k_ => (P0_ k_ ∨ w.heap.size ≤ k_))) (by (with_reducible repeat (first | apply Kd.V_alloc | apply Kd.V_drewN | apply Kd.V_drew)); exact HO174.out) hg hat)
              have n3_ := Aside0.mk (hb)
              have n4_ := Aside0.mk (ho)
              clear HO0
              clear HO166
              clear HO174
              clear HB
              clear HO169
              have HO0 := n0_
              have HO166 := n1_
              have HO174 := n2_
              have HB := n3_
              have HO177 := n4_
              clear n0_ n1_ n2_ n3_ n4_
              clear ho hb hg hat
              refine hK.out _ _ trivial (fun hHeld => ?_)
              clear hK K
              refine norm_ (a' := ?_) ?_ ?_
              rotate_left
              · show Act.put _ (some 14) _ = _
                simp only [Act.put, List.setIfInBounds_toArray, List.set_cons_zero, List.set_cons_succ, i64_w, i32_w]
                rfl
              refine pure_ (i := 10) (N := some 4) (v := ?_) (a' := ?_) #[true, true, true, true, true, true, true, true, true, true, true] rfl rfl (any_of HT_.out (by kernel_rfl)) (fun _ _ _ h => h) (Or.inl ⟨by rfl, ?_⟩) ?_ ?_
              rotate_left
              · intro w'
                go_simp
                with_reducible rfl
              rotate_left
              · simp only [Act.put, List.setIfInBounds_toArray, List.set_cons_zero, List.set_cons_succ, i64_w, i32_w]
                rfl
              refine done_ (done_of HT_.out (by kernel_rfl)) ?_
              try go_wp2
              go_ret
              exact ⟨_, by first | rfl | (simp [errW_none, errW_some] <;> rfl) | (simp only [← hji6]; first | rfl | (simp [errW_none, errW_some] <;> rfl)) | (simp [*, errW_none, errW_some] <;> rfl), by (with_reducible repeat (first | apply Kd.N_alloc | apply Kd.N_drewN | apply Kd.N_drew)); exact HO177.out, by repeat (first | (with_reducible first | exact HB.out | apply below_alloc | apply pw_below_drewN | apply below_drew1) | exact HB.out)⟩
            · rw [if_neg c9] at H
              exact absurd H (by simp)
          · rw [if_neg c8] at H
            exact absurd H (by simp)
        · rw [if_neg c7] at H
          exact absurd H (by simp)
      · rw [if_neg c5] at H
        exact absurd H (by simp)
    · rw [if_neg c4] at H
      exact absurd H (by simp)
  · rw [if_neg c3] at H
    exact absurd H (by simp)

end Go.Proofs.Ytbmhgmnlkeebcab.PFnExactNeedlessTests
