-- Written by a program of this claim, over the kit's print: the functions that a law reaches, their plain forms and the walks.
import Derived.Test.YtbmhgmnlkeebcabPFnExactNeedlessTestsx0
import Derived.Test.YtbmhgmnlkeebcabPFnExactNeedlessTestsx4
namespace Go.Proofs.Ytbmhgmnlkeebcab.PFnExactNeedlessTests
open Go.RowKit Go.Proofs.YtbmhgmnlkeebcabW.PrintWords Go.Proofs.YtbmhgmnlkeebcabW.PrintLast Go.Proofs.YtbmhgmnlkeebcabW.PrintMore
attribute [local go_sem] max2_int min2_int max_two min_two max_three min_three max_four min_four   -- for this text's walks alone
set_option linter.unusedVariables false
set_option linter.unusedSimpArgs false

/-! ### bits_OnesCount16: function 61 -/
def bits_OnesCount16.f (a0 : Int) : Option Int := if 0 ≤ a0 ∧ a0 ≤ 65535 then some ((Lib.onesCount (a0.toNat / 256) + Lib.onesCount (a0.toNat % 256) : Nat) : Int) else none
set_option maxHeartbeats 2000000 in
set_option maxRecDepth 100000 in
theorem bits_OnesCount16.calls (a0 : Int) (r : Int) (w : World) (h : bits_OnesCount16.f a0 = some r) :
    Calls Try.prog 61 #[.int .u16 a0] w fun e w' => e = .returned (.int .i64 r) ∧ Drawn0 w w' := by
  unfold bits_OnesCount16.f at h
  split at h
  case isFalse => cases h
  rename_i hb
  cases h
  go_enter Try.func61, Try.ntmps61
  have e1 : decide (0 ≤ a0 / 256) = true := decide_eq_true (by omega)
  have e2 : decide (a0 / 256 < 256) = true := decide_eq_true (by omega)
  have hi1 : 0 ≤ a0 / 256 ∧ a0 / 256 < (Lib.pop8tab.size : Int) := by rw [Lib.pop8tab_size]; omega
  have hi2 : 0 ≤ a0 % 256 ∧ a0 % 256 < (Lib.pop8tab.size : Int) := by rw [Lib.pop8tab_size]; omega
  go_wp2
  refine start_ (n := 9) (S := fun _ => True) (ds := []) #[false, false, false, false, false, false, false, false, false] (by kernel_rfl) rfl rfl trivial (fun hHeld => ?_)
  have HD : Drawn0 w w.drew := by repeat (first | exact Drawn0.refl _ | apply Drawn0.step)
  generalize w.drew = wd at HD ⊢
  refine pure_ (i := 0) (N := some 3) (v := ?_) (a' := ?_) #[true, false, false, false, false, false, false, false, false] rfl rfl (by kernel_rfl) (fun _ _ _ h => h) (Or.inl ⟨by rfl, ?_⟩) ?_ ?_
  rotate_left
  · intro w'
    go_simp
    with_reducible rfl
  rotate_left
  · simp only [Act.put, List.setIfInBounds_toArray, List.set_cons_zero, List.set_cons_succ, i64_w, i32_w]
    rfl
  refine pure_ (i := 1) (N := some 4) (v := ?_) (a' := ?_) #[true, true, false, false, false, false, false, false, false] rfl rfl (by kernel_rfl) (fun _ _ _ h => h) (Or.inl ⟨by rfl, ?_⟩) ?_ ?_
  rotate_left
  · intro w'
    go_simp
    with_reducible rfl
  rotate_left
  · simp only [Act.put, List.setIfInBounds_toArray, List.set_cons_zero, List.set_cons_succ, i64_w, i32_w]
    rfl
  refine pure_ (i := 3) (N := some 6) (v := ?_) (a' := ?_) #[true, true, false, true, false, false, false, false, false] rfl rfl (by kernel_rfl) (fun _ _ _ h => h) (Or.inl ⟨by rfl, ?_⟩) ?_ ?_
  rotate_left
  · intro w'
    go_simp
    with_reducible rfl
  rotate_left
  · simp only [Act.put, List.setIfInBounds_toArray, List.set_cons_zero, List.set_cons_succ, i64_w, i32_w]
    rfl
  refine pure_ (i := 4) (N := some 7) (v := ?_) (a' := ?_) #[true, true, false, true, true, false, false, false, false] rfl rfl (by kernel_rfl) (fun _ _ _ h => h) (Or.inl ⟨by rfl, ?_⟩) ?_ ?_
  rotate_left
  · intro w'
    go_simp
    with_reducible rfl
  rotate_left
  · simp only [Act.put, List.setIfInBounds_toArray, List.set_cons_zero, List.set_cons_succ, i64_w, i32_w]
    rfl
  refine pure_ (i := 2) (N := some 5) (v := ?_) (a' := ?_) #[true, true, true, true, true, false, false, false, false] rfl rfl (by kernel_rfl) (fun _ _ _ h => h) (Or.inl ⟨by rfl, ?_⟩) ?_ ?_
  rotate_left
  · intro w'
    go_simp
    with_reducible rfl
  rotate_left
  · simp only [Act.put, List.setIfInBounds_toArray, List.set_cons_zero, List.set_cons_succ, i64_w, i32_w]
    rfl
  have hm : bits BinOp.and IntKind.u16 a0 255 = a0 % 256 := by
    obtain ⟨n, rfl⟩ := Int.eq_ofNat_of_zero_le hb.1
    have h1 := (bits_nat .u16 16 (by decide) (fun m h0 h1 => by rw [IntKind.wrap_u16]; simp at h1; omega) n 255 (by omega) (by decide)).1
    have h2 : n &&& 255 = n % 256 := Nat.and_two_pow_sub_one_eq_mod n 8
    rw [h2] at h1
    have h3 : ((n % 256 : Nat) : Int) = (n : Int) % 256 := by omega
    rw [← h3]
    exact h1
  rw [hm]
  refine pure_ (i := 5) (N := some 8) (v := ?_) (a' := ?_) #[true, true, true, true, true, true, false, false, false] rfl rfl (by kernel_rfl) (fun _ _ _ h => h) (Or.inl ⟨by rfl, ?_⟩) ?_ ?_
  rotate_left
  · intro w'
    go_simp
    with_reducible rfl
  rotate_left
  · simp only [Act.put, List.setIfInBounds_toArray, List.set_cons_zero, List.set_cons_succ, i64_w, i32_w]
    rfl
  refine pure_ (i := 6) (N := some 9) (v := ?_) (a' := ?_) #[true, true, true, true, true, true, true, false, false] rfl rfl (by kernel_rfl) (fun _ _ _ h => h) (Or.inl ⟨by rfl, ?_⟩) ?_ ?_
  rotate_left
  · intro w'
    go_simp
    with_reducible rfl
  rotate_left
  · simp only [Act.put, List.setIfInBounds_toArray, List.set_cons_zero, List.set_cons_succ, i64_w, i32_w]
    rfl
  refine pure_ (i := 7) (N := some 10) (v := ?_) (a' := ?_) #[true, true, true, true, true, true, true, true, false] rfl rfl (by kernel_rfl) (fun _ _ _ h => h) (Or.inl ⟨by rfl, ?_⟩) ?_ ?_
  rotate_left
  · intro w'
    go_simp
    with_reducible rfl
  rotate_left
  · simp only [Act.put, List.setIfInBounds_toArray, List.set_cons_zero, List.set_cons_succ, i64_w, i32_w]
    rfl
  refine pure_ (i := 8) (N := some 2) (v := ?_) (a' := ?_) #[true, true, true, true, true, true, true, true, true] rfl rfl (by kernel_rfl) (fun _ _ _ h => h) (Or.inl ⟨by rfl, ?_⟩) ?_ ?_
  rotate_left
  · intro w'
    go_simp
    with_reducible rfl
  rotate_left
  · simp only [Act.put, List.setIfInBounds_toArray, List.set_cons_zero, List.set_cons_succ, i64_w, i32_w]
    rfl
  refine done_ (by kernel_rfl) ?_
  go_wp2
  go_ret
  have k1 : ∀ x : Int, 0 ≤ x → x ≤ 255 → Lib.pop8 x = (Lib.onesCount x.toNat : Int) ∧ Lib.onesCount x.toNat ≤ 8 := fun x h0 h1 => by
    have e := Lib.pop8_eq ⟨x.toNat, by omega⟩
    have l := Lib.onesCount_le8 ⟨x.toNat, by omega⟩
    simp only [Int.toNat_of_nonneg h0] at e
    exact ⟨e, l⟩
  obtain ⟨k2, k3⟩ := k1 (a0 / 256) (by omega) (by omega)
  obtain ⟨k4, k5⟩ := k1 (a0 % 256) (by omega) (by omega)
  have hlt : (a0 / 256).toNat < Lib.pop8tab.size := by rw [Lib.pop8tab_size]; omega
  have k6 : ((Lib.pop8tab[(a0 / 256).toNat]'hlt).toNat : Int) = Lib.pop8 (a0 / 256) := by
    unfold Lib.pop8
    rw [getElem?_pos Lib.pop8tab (a0 / 256).toNat hlt]
    rfl
  have t1 : (a0 / 256).toNat = a0.toNat / 256 := by omega
  have t2 : (a0 % 256).toNat = a0.toNat % 256 := by omega
  rw [t1] at k2 k3
  rw [t2] at k4 k5
  have hv : wrap64 (IntKind.u8.wrap (((Lib.pop8tab[(a0 / 256).toNat]'hlt).toNat : Int) + Lib.pop8 (a0 % 256))) = ((Lib.onesCount (a0.toNat / 256) + Lib.onesCount (a0.toNat % 256) : Nat) : Int) := by
    rw [k6, k2, k4, IntKind.wrap_u8]
    unfold wrap64
    omega
  exact ⟨congrArg (fun z => Ending.returned (.int .i64 z)) hv, HD⟩


/-! ### impl_setOf: function 77 -/
def impl_setOf.l0 : Nat → Int → List Int → Int → Int → Option (Int)
  | 0, _, _, _, _ => none
  | k + 1, x3, x6, x7, x8 => if x8 < x7 then (if 0 ≤ x8 then (if x8 < (x6.length : Int) then (if 0 ≤ (rd x6 x8) then (impl_setOf.l0 k (Go.bits .or .u16 x3 (shl .u16 1 (rd x6 x8))) x6 x7 (wrap64 (x8 + 1))) else (none)) else (none)) else (none)) else (some x3)
def impl_setOf.f (k : Nat) (l0 : List Int) : Option (Int) := impl_setOf.l0 k 0 l0 (l0.length : Int) 0
theorem impl_setOf.mono_l : ∀ k, (∀ y0 y1 y2 y3, LeO (impl_setOf.l0 k y0 y1 y2 y3) (impl_setOf.l0 (k + 1) y0 y1 y2 y3))
  | 0 => fun _ _ _ _ r h => by simp [impl_setOf.l0] at h
  | k + 1 => by
    have ih0 := impl_setOf.mono_l k
    · intro y0 y1 y2 y3
      unfold impl_setOf.l0
      repeat' first
      | (with_reducible exact ih0 _ _ _ _)
      | (with_reducible exact LeO.refl _)
      | (with_reducible exact LeO.none _)
      | (with_reducible refine LeO.ite ?_ ?_)
      | (with_reducible refine LeO.bind ?_ (fun _ => ?_))
      | exact ih0 _ _ _ _
      | exact LeO.none _
      | refine LeO.ite ?_ ?_
      | refine LeO.bind ?_ (fun _ => ?_)
theorem impl_setOf.mono : ∀ a0 k, LeO (impl_setOf.f k a0) (impl_setOf.f (k + 1) a0) := by
  intro a0 k
  have ih0 := impl_setOf.mono_l k
  unfold impl_setOf.f
  repeat' first
      | (with_reducible exact ih0 _ _ _ _)
      | (with_reducible exact LeO.refl _)
      | (with_reducible exact LeO.none _)
      | (with_reducible refine LeO.ite ?_ ?_)
      | (with_reducible refine LeO.bind ?_ (fun _ => ?_))
      | exact ih0 _ _ _ _
      | exact LeO.none _
      | refine LeO.ite ?_ ?_
      | refine LeO.bind ?_ (fun _ => ?_)
set_option maxHeartbeats 8000000 in
set_option maxRecDepth 100000 in
theorem impl_setOf.calls (k : Nat) (A0 : Option Addr) (c0 : Nat) (l0 : List Int) (r : Int) (w : World) (hr0 : Kd.C (Kd.int .i64) w A0 l0.length l0) (hc0 : l0.length ≤ c0) (h : impl_setOf.f k l0 = some r) :
    Calls Try.prog 77 #[.slice A0 l0.length c0] w fun e w' => e = .returned (.int .u16 r) ∧ Drawn0 w w' := by
  have HR0 := Aside0.mk hr0
  have HC0 := Aside0.mk hc0
  clear hr0 hc0
  have H : (impl_setOf.l0 k 0 l0 (l0.length : Int) 0) = some r := h
  clear h
  have H' := Aside0.mk H
  clear H
  go_enter Try.func77, Try.ntmps77
  go_wp2
  go_loopg [3, 8] k (fun kq v3 v8 w' => ∃ (x3_1 : Int) (x8_1 : Int), v3 = .int .u16 x3_1 ∧ v8 = .int .i64 x8_1 ∧ Aside0 (impl_setOf.l0 kq x3_1 l0 (l0.length : Int) x8_1 = some r) ∧ Aside0 (kq ≤ k) ∧ Drawn0 w w')
  case atStart => exact ⟨(0), (0), (by first | rfl | (simp; done) | (simp [*]; done)), (by first | rfl | (simp; done) | (simp [*]; done)), H', ⟨Nat.le_refl _⟩, by repeat (first | exact Drawn0.refl _ | apply Drawn0.step)⟩
  case round =>
    clear H'
    obtain ⟨x3_1, x8_1, rfl, rfl, HA, HK1, ⟨m1, rfl⟩⟩ := hrel
    cases gk with
    | zero => exact absurd HA.out (by simp [impl_setOf.l0])
    | succ k1 =>
      have H := HA.out
      clear HA
      simp only [impl_setOf.l0] at H
      by_cases c2 : x8_1 < (l0.length : Int)
      · rw [if_pos c2] at H
        have c2b0 : decide (x8_1 < (l0.length : Int)) = true := decide_eq_true c2
        clear c2
        by_cases c3 : 0 ≤ x8_1
        · rw [if_pos c3] at H
          have c3b0 : decide (0 ≤ x8_1) = true := decide_eq_true c3
          clear c3
          by_cases c4 : x8_1 < (l0.length : Int)
          · rw [if_pos c4] at H
            have c4b0 : decide (x8_1 < (l0.length : Int)) = true := decide_eq_true c4
            clear c4
            by_cases c5 : 0 ≤ (rd l0 x8_1)
            · rw [if_pos c5] at H
              have c5b0 := eq_true c5
              have c5b1 : decide (0 ≤ (rd l0 x8_1)) = true := decide_eq_true c5
              clear c5
              obtain ⟨ji6, hji6⟩ : ∃ j_ : Int, (shl .u16 1 (rd l0 x8_1)) = j_ := ⟨_, rfl⟩
              replace H : (impl_setOf.l0 k1 (Go.bits .or .u16 x3_1 (ji6)) l0 (l0.length : Int) (wrap64 (x8_1 + 1))) = some r := by first | (rw [hji6] at H; exact H) | (simp only [hji6] at H ⊢; exact H)
              have hji6_ : (IntKind.u16.wrap (1 * 2 ^ min (rd l0 x8_1).toNat 16)) = ji6 := hji6
              have hji6z : (rd l0 x8_1) ≤ 16 → (IntKind.u16.wrap (1 * 2 ^ (rd l0 x8_1).toNat)) = ji6 := shl_small hji6
              have hji6u : (IntKind.u16.wrap (2 ^ min (rd l0 x8_1).toNat 16)) = ji6 := by have h_ := hji6_; rw [Int.one_mul] at h_; exact h_
              have hji6v : (rd l0 x8_1) ≤ 16 → (IntKind.u16.wrap (2 ^ (rd l0 x8_1).toNat)) = ji6 := fun hle_ => by have h_ := hji6z hle_; rw [Int.one_mul] at h_; exact h_
              have H' := Aside0.mk H
              clear H
              have p195 : 0 ≤ (x8_1 : Int) := of_decide_eq_true (by first | (with_reducible assumption) | assumption)
              have q195 : x8_1 < (l0.length : Int) := of_decide_eq_true (by first | (with_reducible assumption) | assumption)
              obtain ⟨ad195, e195, hx195_0⟩ := Kd.at_int HR0.out x8_1 p195 q195
              cases e195
              replace p195 := eq_true p195
              replace q195 := eq_true q195
              go_wp2
              go_roundg k1
              case measure => have := HK1.out; omega
              case rel => exact ⟨(Go.bits .or .u16 x3_1 (ji6)), (wrap64 (x8_1 + 1)), (by first | rfl | (simp; done) | (simp only [← hji6] <;> (first | rfl | simp)) | (simp [*]; done)), (by first | rfl | (simp; done) | (simp [*]; done)), H', ⟨by have := HK1.out; omega⟩, by repeat (first | exact Drawn0.refl _ | apply Drawn0.step)⟩
            · rw [if_neg c5] at H
              exact absurd H (by simp)
          · rw [if_neg c4] at H
            exact absurd H (by simp)
        · rw [if_neg c3] at H
          exact absurd H (by simp)
      · rw [if_neg c2] at H
        have c2b0 : decide (x8_1 < (l0.length : Int)) = false := decide_eq_false c2
        clear c2
        obtain rfl := Option.some.inj H
        go_wp2
        go_ret
        exact ⟨by first | rfl | (simp; done) | (simp [*]; done), by repeat (first | exact Drawn0.refl _ | apply Drawn0.step)⟩

/-! ### impl_results: function 62 -/
def impl_results.l0 : Nat → Int → List Int → List (List Int) → Int → Int → Option (ByteArray)
  | 0, _, _, _, _, _ => none
  | k + 1, x1, x5, x9, x10, x11 => if x11 < x10 then (if 0 ≤ x11 then (if x11 < (x9.length : Int) then ((impl_setOf.f k (rd_L1 x9 x11)).bind fun t200 => (if (Go.bits .and .u16 t200 x1) = 0 then (if x5.length < 140737488355328 then (impl_results.l0 k x1 (x5 ++ [48]) x9 x10 (wrap64 (x11 + 1))) else (none)) else (if x5.length < 140737488355328 then (impl_results.l0 k x1 (x5 ++ [49]) x9 x10 (wrap64 (x11 + 1))) else (none)))) else (none)) else (none)) else (some (strOfNums x5))
def impl_results.f (k : Nat) (l0 : List (List Int)) (a1 : Int) : Option (ByteArray) := impl_results.l0 k a1 (([] : List Int)) l0 (l0.length : Int) 0
theorem impl_results.mono_l : ∀ k, (∀ y0 y1 y2 y3 y4, LeO (impl_results.l0 k y0 y1 y2 y3 y4) (impl_results.l0 (k + 1) y0 y1 y2 y3 y4))
  | 0 => fun _ _ _ _ _ r h => by simp [impl_results.l0] at h
  | k + 1 => by
    have ih0 := impl_results.mono_l k
    · intro y0 y1 y2 y3 y4
      unfold impl_results.l0
      repeat' first
      | (with_reducible exact ih0 _ _ _ _ _)
      | (with_reducible exact impl_setOf.mono _ _)
      | (with_reducible exact LeO.refl _)
      | (with_reducible exact LeO.none _)
      | (with_reducible refine LeO.ite ?_ ?_)
      | (with_reducible refine LeO.bind ?_ (fun _ => ?_))
      | exact ih0 _ _ _ _ _
      | exact impl_setOf.mono _ _
      | exact LeO.none _
      | refine LeO.ite ?_ ?_
      | refine LeO.bind ?_ (fun _ => ?_)
theorem impl_results.mono : ∀ a0 a1 k, LeO (impl_results.f k a0 a1) (impl_results.f (k + 1) a0 a1) := by
  intro a0 a1 k
  have ih0 := impl_results.mono_l k
  unfold impl_results.f
  repeat' first
      | (with_reducible exact ih0 _ _ _ _ _)
      | (with_reducible exact impl_setOf.mono _ _)
      | (with_reducible exact LeO.refl _)
      | (with_reducible exact LeO.none _)
      | (with_reducible refine LeO.ite ?_ ?_)
      | (with_reducible refine LeO.bind ?_ (fun _ => ?_))
      | exact ih0 _ _ _ _ _
      | exact impl_setOf.mono _ _
      | exact LeO.none _
      | refine LeO.ite ?_ ?_
      | refine LeO.bind ?_ (fun _ => ?_)
set_option maxHeartbeats 8000000 in
set_option maxRecDepth 100000 in
theorem impl_results.calls (k : Nat) (A0 : Option Addr) (c0 : Nat) (l0 : List (List Int)) (a1 : Int) (r : ByteArray) (w : World) (hr0 : Kd.C (Kd.slice 3 (Kd.int .i64)) w A0 l0.length l0) (hc0 : l0.length ≤ c0) (h : impl_results.f k l0 a1 = some r) :
    Calls Try.prog 62 #[.slice A0 l0.length c0, .int .u16 a1] w fun e w' => e = .returned (.string r) ∧ Below w.heap.size w w' := by
  have HR0 := Aside0.mk hr0
  have HC0 := Aside0.mk hc0
  clear hr0 hc0
  have HB := Aside0.mk (Below.refl w.heap.size w)
  have H : (impl_results.l0 k a1 (([] : List Int)) l0 (l0.length : Int) 0) = some r := h
  clear h
  obtain ⟨y196, hy196⟩ : ∃ y_ : List Int, y_ = (([] : List Int)) := ⟨_, rfl⟩
  replace H : (impl_results.l0 k a1 y196 l0 (l0.length : Int) 0) = some r := by first | (rw [hy196]; with_reducible exact H) | (have H2_ := (Option.bind_some _ _).symm.trans H; rw [hy196]; with_reducible exact H2_) | (have H2_ := (Option.bind_some _ _).symm.trans H; with_reducible exact H2_) | with_reducible exact H | (rw [hy196]; exact H) | exact H
  have Ny196 := Aside0.mk hy196
  clear hy196
  have H' := Aside0.mk H
  clear H
  go_enter Try.func62, Try.ntmps62
  go_wp2_with (first | ((with_reducible refine gate_dst (N := 8) rfl ?_); refine Kd.R_lit (Kd.int .u8) _ 5 ?hg (N := 8) ?hd (xs := ([] : List Int)) (inner := []) (ok := fun _ => True) (okp := fun _ => True) ?hr ?hp (fun _ hk => hk) trivial (Below.refl _ _) (Nat.le_refl _) (by simp) ?_; (case hd => rfl); (case hg => rfl); (case hr => first | (go_simp; done) | (go_simp; rfl)); (case hp => exact (Reps.none _ _)); intro v197 w3 ho4 hb hg_ hnew_; clear hg_ hnew_; (first | rw [← Ny196.out] at ho4 | (simp only [Int.reduceToNat] at ho4; rw [← Ny196.out] at ho4)); have n0_ := Aside0.mk (Kd.R_lower ho4 (below_size (by repeat (first | (with_reducible first | exact HB.out | apply below_alloc | apply pw_below_drewN | apply below_drew1) | exact HB.out)))); have n1_ := Aside0.mk (below_step (by repeat (first | (with_reducible first | exact HB.out | apply below_alloc | apply pw_below_drewN | apply below_drew1) | exact HB.out)) hb); clear HB; have HO198 := n0_; have HB := n1_; clear n0_ n1_; clear hb ho4))
  go_loopg [5, 11] k (fun kq v5 v11 w' => ∃ (x5_1 : List Int) (x11_1 : Int), v11 = .int .i64 x11_1 ∧ Aside0 (impl_results.l0 kq a1 x5_1 l0 (l0.length : Int) x11_1 = some r) ∧ Aside0 (kq ≤ k) ∧ Aside0 (Kd.R (Kd.int .u8) 5 w' w.heap.size (fun _ => True) v5 x5_1) ∧ Aside0 (Below w.heap.size w w'))
  case atStart => exact ⟨(y196), (0), (by first | rfl | (simp; done) | (simp [*]; done)), H', ⟨Nat.le_refl _⟩, ⟨by (with_reducible repeat (first | apply Kd.R_alloc | apply Kd.R_drewN | apply Kd.R_drew)); exact HO198.out⟩, ⟨by repeat (first | (with_reducible first | exact HB.out | apply below_alloc | apply pw_below_drewN | apply below_drew1) | exact HB.out)⟩⟩
  case round =>
    clear H'
    try clear p2
    obtain ⟨x5_1, x11_1, rfl, HA, HK1, HO_5, HB⟩ := hrel
    cases gk with
    | zero => exact absurd HA.out (by simp [impl_results.l0])
    | succ k1 =>
      have H := HA.out
      clear HA
      simp only [impl_results.l0] at H
      by_cases c5 : x11_1 < (l0.length : Int)
      · rw [if_pos c5] at H
        have c5b0 : decide (x11_1 < (l0.length : Int)) = true := decide_eq_true c5
        clear c5
        by_cases c6 : 0 ≤ x11_1
        · rw [if_pos c6] at H
          have c6b0 : decide (0 ≤ x11_1) = true := decide_eq_true c6
          clear c6
          by_cases c7 : x11_1 < (l0.length : Int)
          · rw [if_pos c7] at H
            have c7b0 : decide (x11_1 < (l0.length : Int)) = true := decide_eq_true c7
            clear c7
            replace H := Option.bind_eq_some_iff.mp H
            obtain ⟨t200, A80, H⟩ := H
            replace H : (if (Go.bits .and .u16 t200 a1) = 0 then (if x5_1.length < 140737488355328 then (impl_results.l0 k1 a1 (x5_1 ++ [48]) l0 (l0.length : Int) (wrap64 (x11_1 + 1))) else (none)) else (if x5_1.length < 140737488355328 then (impl_results.l0 k1 a1 (x5_1 ++ [49]) l0 (l0.length : Int) (wrap64 (x11_1 + 1))) else (none))) = some r := H
            have A8 := Aside0.mk A80
            clear A80
            by_cases c9 : (Go.bits .and .u16 t200 a1) = 0
            · rw [if_pos c9] at H
              have c9b0 : ((Go.bits .and .u16 t200 a1) == 0) = true := beq_iff_eq.mpr c9
              have c9b1 : ((Go.bits .and .u16 t200 a1) != 0) = false := bne_eq_false_iff_eq.mpr c9
              clear c9
              by_cases c10 : x5_1.length < 140737488355328
              · rw [if_pos c10] at H
                have LMc10 := Aside0.mk c10
                clear c10
                obtain ⟨y201, hy201⟩ : ∃ y_ : List Int, y_ = (x5_1 ++ [48]) := ⟨_, rfl⟩
                replace H : (impl_results.l0 k1 a1 y201 l0 (l0.length : Int) (wrap64 (x11_1 + 1))) = some r := by first | (rw [hy201]; with_reducible exact H) | (have H2_ := (Option.bind_some _ _).symm.trans H; rw [hy201]; with_reducible exact H2_) | (have H2_ := (Option.bind_some _ _).symm.trans H; with_reducible exact H2_) | with_reducible exact H | (rw [hy201]; exact H) | exact H
                have Ny201 := Aside0.mk hy201
                clear hy201
                have H' := Aside0.mk H
                clear H
                have p199 : 0 ≤ (x11_1 : Int) := of_decide_eq_true (by first | (with_reducible assumption) | assumption)
                have q199 : x11_1 < (l0.length : Int) := of_decide_eq_true (by first | (with_reducible assumption) | assumption)
                obtain ⟨ad199, A199_0, c199_0, e199, hx199_0, hl199_0, hi199_0⟩ := at_L1 HR0.out x11_1 p199 q199
                cases e199
                replace hx199_0 := (HB.out.cell (World.block_lt_of_cell? w _ hx199_0)).trans hx199_0
                have HR199_0 := Aside0.mk hi199_0
                have HC199_0 := Aside0.mk hl199_0
                clear hi199_0 hl199_0
                replace p199 := eq_true p199
                replace q199 := eq_true q199
                go_wp2_with (first | ((with_reducible refine gate_callee (f := 77) rfl ?_); refine goesL_ (some 16) rfl rfl Try.func77 (by kernel_rfl) rfl #[.slice A199_0 (rd_L1 l0 x11_1).length c199_0] rfl (by (try simp only [List.map_toArray, List.map_cons, List.map_nil]); first | done | rfl | (simp only [List.length_drop, List.length_take]; rfl) | (simp; done) | (refine congrArg Value.bool ?_; simp; done) | (refine congrArg (fun z_ => #[Value.bool z_]) ?_; simp; done)) ?_; (with_reducible refine (impl_setOf.calls k1 _ _ (rd_L1 l0 x11_1) t200 _ ?side1 ?side2 A8.out).mono ?_); (case side1 => repeat (first | exact (Kd.C_below HR199_0.out HB.out) | (with_reducible refine Kd.C_alloc ?_ _) | (with_reducible refine Kd.C_drewN ?_ _) | (with_reducible refine Kd.C_drew ?_))); (case side2 => exact HC199_0.out); rintro e w' ⟨rfl, ⟨nd, rfl⟩⟩; refine ⟨_, rfl, ?_⟩) | ((with_reducible refine gate_builtin (b := .append) (xs := #[.tmp 23, .tmp 24]) rfl ?_); at_builtin; refine Kd.R_append (Kd.int .u8) (w0 := w) w.heap.size rfl (.tmp 23) (.tmp 24) 55 5 (.int .u8 0) 1 rfl Try.underlying55 info5 rfl (by decide) (by omega) u5 x5_1 48 [.int .u8 48] (fun _ => True) (fun _ => False) rfl rfl ?aP (fun _ hk => hk.elim) ?aF ?aO ?aB ?aS ?aL ?_; (case aP => exact rfl); (case aB => exact (by repeat (first | (with_reducible first | exact HB.out | apply below_alloc | apply pw_below_drewN | apply below_drew1) | exact HB.out))); (case aF => exact (fun _ _ => trivial)); (case aO => exact (by (with_reducible repeat (first | apply Kd.R_alloc | apply Kd.R_drewN | apply Kd.R_drew)); exact HO_5.out)); (case aS => exact (below_size (by repeat (first | (with_reducible first | exact HB.out | apply below_alloc | apply pw_below_drewN | apply below_drew1) | exact HB.out)))); (case aL => have := LMc10.out; omega); intro v202 w11 ho hb hg hat; rw [← Ny201.out] at ho; have n0_ := Aside0.mk (hb); have n1_ := Aside0.mk (ho); clear HB; clear HO_5; have HB := n0_; have HO203 := n1_; clear n0_ n1_; clear ho hb hg hat))
                go_roundg k1
                case measure => have := HK1.out; omega
                case rel => exact ⟨(y201), (wrap64 (x11_1 + 1)), (by first | rfl | (simp; done) | (simp [*]; done)), H', ⟨by have := HK1.out; omega⟩, ⟨by (with_reducible repeat (first | apply Kd.R_alloc | apply Kd.R_drewN | apply Kd.R_drew)); exact HO203.out⟩, ⟨by repeat (first | (with_reducible first | exact HB.out | apply below_alloc | apply pw_below_drewN | apply below_drew1) | exact HB.out)⟩⟩
              · rw [if_neg c10] at H
                exact absurd H (by simp)
            · rw [if_neg c9] at H
              have c9b0 : ((Go.bits .and .u16 t200 a1) == 0) = false := beq_eq_false_iff_ne.mpr c9
              have c9b1 : ((Go.bits .and .u16 t200 a1) != 0) = true := bne_iff_ne.mpr c9
              by_cases c12 : x5_1.length < 140737488355328
              · rw [if_pos c12] at H
                have LMc12 := Aside0.mk c12
                clear c12
                obtain ⟨y204, hy204⟩ : ∃ y_ : List Int, y_ = (x5_1 ++ [49]) := ⟨_, rfl⟩
                replace H : (impl_results.l0 k1 a1 y204 l0 (l0.length : Int) (wrap64 (x11_1 + 1))) = some r := by first | (rw [hy204]; with_reducible exact H) | (have H2_ := (Option.bind_some _ _).symm.trans H; rw [hy204]; with_reducible exact H2_) | (have H2_ := (Option.bind_some _ _).symm.trans H; with_reducible exact H2_) | with_reducible exact H | (rw [hy204]; exact H) | exact H
                have Ny204 := Aside0.mk hy204
                clear hy204
                have H' := Aside0.mk H
                clear H
                have p199 : 0 ≤ (x11_1 : Int) := of_decide_eq_true (by first | (with_reducible assumption) | assumption)
                have q199 : x11_1 < (l0.length : Int) := of_decide_eq_true (by first | (with_reducible assumption) | assumption)
                obtain ⟨ad199, A199_0, c199_0, e199, hx199_0, hl199_0, hi199_0⟩ := at_L1 HR0.out x11_1 p199 q199
                cases e199
                replace hx199_0 := (HB.out.cell (World.block_lt_of_cell? w _ hx199_0)).trans hx199_0
                have HR199_0 := Aside0.mk hi199_0
                have HC199_0 := Aside0.mk hl199_0
                clear hi199_0 hl199_0
                replace p199 := eq_true p199
                replace q199 := eq_true q199
                go_wp2_with (first | ((with_reducible refine gate_callee (f := 77) rfl ?_); refine goesL_ (some 16) rfl rfl Try.func77 (by kernel_rfl) rfl #[.slice A199_0 (rd_L1 l0 x11_1).length c199_0] rfl (by (try simp only [List.map_toArray, List.map_cons, List.map_nil]); first | done | rfl | (simp only [List.length_drop, List.length_take]; rfl) | (simp; done) | (refine congrArg Value.bool ?_; simp; done) | (refine congrArg (fun z_ => #[Value.bool z_]) ?_; simp; done)) ?_; (with_reducible refine (impl_setOf.calls k1 _ _ (rd_L1 l0 x11_1) t200 _ ?side1 ?side2 A8.out).mono ?_); (case side1 => repeat (first | exact (Kd.C_below HR199_0.out HB.out) | (with_reducible refine Kd.C_alloc ?_ _) | (with_reducible refine Kd.C_drewN ?_ _) | (with_reducible refine Kd.C_drew ?_))); (case side2 => exact HC199_0.out); rintro e w' ⟨rfl, ⟨nd, rfl⟩⟩; refine ⟨_, rfl, ?_⟩) | ((with_reducible refine gate_builtin (b := .append) (xs := #[.tmp 20, .tmp 21]) rfl ?_); at_builtin; refine Kd.R_append (Kd.int .u8) (w0 := w) w.heap.size rfl (.tmp 20) (.tmp 21) 55 5 (.int .u8 0) 1 rfl Try.underlying55 info5 rfl (by decide) (by omega) u5 x5_1 49 [.int .u8 49] (fun _ => True) (fun _ => False) rfl rfl ?aP (fun _ hk => hk.elim) ?aF ?aO ?aB ?aS ?aL ?_; (case aP => exact rfl); (case aB => exact (by repeat (first | (with_reducible first | exact HB.out | apply below_alloc | apply pw_below_drewN | apply below_drew1) | exact HB.out))); (case aF => exact (fun _ _ => trivial)); (case aO => exact (by (with_reducible repeat (first | apply Kd.R_alloc | apply Kd.R_drewN | apply Kd.R_drew)); exact HO_5.out)); (case aS => exact (below_size (by repeat (first | (with_reducible first | exact HB.out | apply below_alloc | apply pw_below_drewN | apply below_drew1) | exact HB.out)))); (case aL => have := LMc12.out; omega); intro v205 w13 ho hb hg hat; rw [← Ny204.out] at ho; have n0_ := Aside0.mk (hb); have n1_ := Aside0.mk (ho); clear HB; clear HO_5; have HB := n0_; have HO206 := n1_; clear n0_ n1_; clear ho hb hg hat))
                go_roundg k1
                case measure => have := HK1.out; omega
                case rel => exact ⟨(y204), (wrap64 (x11_1 + 1)), (by first | rfl | (simp; done) | (simp [*]; done)), H', ⟨by have := HK1.out; omega⟩, ⟨by (with_reducible repeat (first | apply Kd.R_alloc | apply Kd.R_drewN | apply Kd.R_drew)); exact HO206.out⟩, ⟨by repeat (first | (with_reducible first | exact HB.out | apply below_alloc | apply pw_below_drewN | apply below_drew1) | exact HB.out)⟩⟩
              · rw [if_neg c12] at H
                exact absurd H (by simp)
          · rw [if_neg c7] at H
            exact absurd H (by simp)
        · rw [if_neg c6] at H
          exact absurd H (by simp)
      · rw [if_neg c5] at H
        have c5b0 : decide (x11_1 < (l0.length : Int)) = false := decide_eq_false c5
        clear c5
        obtain rfl := Option.some.inj H
        have hcv14 := own_string (P := Try.prog) Try.underlying55 Try.underlying5 Try.underlying9 (Kd.own_of_R HO_5.out)
        go_wp2
        go_ret
        exact ⟨by first | rfl | (simp [errW_none, errW_some] <;> rfl) | (simp [*, errW_none, errW_some] <;> rfl), by repeat (first | (with_reducible first | exact HB.out | apply below_alloc | apply pw_below_drewN | apply below_drew1) | exact HB.out)⟩

/-! ### impl_tellsUpTo: function 35 -/
section
open Go.Maps
/-- A look-up of a bool in a map of the call's own. -/
theorem impl_tellsUpTo.lookup_bool {H : Type} {P : Program} {w : World} {k t e b n : Nat} {D : DataW H} (h : w.ownsMap P k (plainElem P e) b n D) (K : Keyed P k) (ht : P.underlying t = some (.map k e)) (he : P.underlying e = some .bool) (hz : (zeroValue e).run P w = .ok (.bool false) w)
    {key : Value} {kl : Lit} (hkey : keyOf P k key = some kl) : ∃ c : Bool, (Instr.lookup t (.map (some b)) key false).run P w = .ok (.bool c) w ∧ D.atKey kl (.lit (.bool false)) = .lit (.bool c) := by
  obtain ⟨v, ps, hrun, hv⟩ := h.lookup K ht hz (plainElem_bool he false) hkey
  unfold plainElem at hv
  rw [he] at hv
  cases v <;> simp at hv
  rename_i c
  exact ⟨c, hrun, hv.1.symm⟩
theorem impl_tellsUpTo.zero4 (w : World) : (zeroValue 4).run Try.prog w = .ok (.bool false) w := by kernel_rfl
/-- The block is a map, and holds of the texts seen, true. -/
def impl_tellsUpTo.Inv (w : World) (b : Nat) (seen : List (List UInt8)) : Prop := ∃ D : DataW Unit, w.ownsMap Try.prog 9 (plainElem Try.prog 4) b seen.length D ∧ IsMap D ∧ ∀ k, D.atKey (.string k) (.lit (.bool false)) = .lit (.bool (decide (k ∈ seen)))
theorem impl_tellsUpTo.Inv.below {w w' : World} {b : Nat} {seen : List (List UInt8)} (h : impl_tellsUpTo.Inv w b seen) (hb : Below w.heap.size w w') : impl_tellsUpTo.Inv w' b seen := by
  obtain ⟨D, h1, h2, h3⟩ := h
  exact ⟨D, h1.kept (row := none) ⟨hb.os, hb.tape, hb.output, hb.size, fun i hi _ => hb.block i hi⟩ (by simp), h2, h3⟩
theorem impl_tellsUpTo.Inv.put {w : World} {b : Nat} {seen : List (List UInt8)} {key : List UInt8} {D : DataW Unit} (h1 : w.ownsMap Try.prog 9 (plainElem Try.prog 4) b (seen.length + 1) (D.put (.string key) (.lit (.bool true)))) (h2 : IsMap D) (h3 : ∀ k, D.atKey (.string k) (.lit (.bool false)) = .lit (.bool (decide (k ∈ seen)))) : impl_tellsUpTo.Inv w b (seen ++ [key]) := by
  refine ⟨_, by rw [List.length_append]; exact h1, h2.put _ _, fun k => ?_⟩
  by_cases e : k = key
  · subst e
    rw [atKey_put_same h2 (by simp [WideAt.IsKeyLit])]
    simp
  · rw [atKey_put_other (by intro h; injection h with h; exact e h), h3]
    simp [e]
theorem impl_tellsUpTo.Inv.made (w : World) : impl_tellsUpTo.Inv (w.alloc (.map #[] 0)) w.heap.size [] := ⟨_, World.ownsMap_made w _ _ _, isMap_empty, fun k => by simp [DataW.atKey]⟩
end
def impl_tellsUpTo.l0 : Nat → List (List Int) → Int → Int → List (List UInt8) → Int → Option Bool
  | 0, _, _, _, _, _ => none
  | k + 1, l1, most, lim, seen, set => if set < lim then (bits_OnesCount16.f set).bind fun c => (if c > most then impl_tellsUpTo.l0 k l1 most lim seen (IntKind.u16.wrap (set + 1)) else (impl_results.f k l1 set).bind fun key => (if key.size ≤ maxLen ∧ seen.length < 1000000 then (if key.data.toList ∈ seen then some false else impl_tellsUpTo.l0 k l1 most lim (seen ++ [key.data.toList]) (IntKind.u16.wrap (set + 1))) else none)) else some true
def impl_tellsUpTo.f (k : Nat) (a0 : Int) (l1 : List (List Int)) (a2 : Int) : Option Bool := if 0 ≤ a0 ∧ a0 ≤ 15 then impl_tellsUpTo.l0 k l1 a2 (shl .u16 1 a0) [] 0 else none
theorem impl_tellsUpTo.mono_l : ∀ k l1 most lim seen set, LeO (impl_tellsUpTo.l0 k l1 most lim seen set) (impl_tellsUpTo.l0 (k + 1) l1 most lim seen set)
  | 0, _, _, _, _, _ => fun r h => by simp [impl_tellsUpTo.l0] at h
  | k + 1, l1, most, lim, seen, set => by
    unfold impl_tellsUpTo.l0
    exact LeO.ite (LeO.bind (LeO.refl _) (fun _ => LeO.ite (impl_tellsUpTo.mono_l k _ _ _ _ _) (LeO.bind (impl_results.mono _ _ _) (fun _ => LeO.ite (LeO.ite (LeO.refl _) (impl_tellsUpTo.mono_l k _ _ _ _ _)) (LeO.none _))))) (LeO.refl _)
theorem impl_tellsUpTo.mono : ∀ a0 l1 a2 k, LeO (impl_tellsUpTo.f k a0 l1 a2) (impl_tellsUpTo.f (k + 1) a0 l1 a2) := fun _ _ _ k => LeO.ite (impl_tellsUpTo.mono_l k _ _ _ _ _) (LeO.none _)
set_option maxHeartbeats 2000000 in
set_option maxRecDepth 100000 in
theorem impl_tellsUpTo.calls (k : Nat) (a0 : Int) (A1 : Option Addr) (c1 : Nat) (l1 : List (List Int)) (a2 : Int) (r : Bool) (w : World) (hr1 : Kd.C (Kd.slice 3 (Kd.int .i64)) w A1 l1.length l1) (hc1 : l1.length ≤ c1) (h : impl_tellsUpTo.f k a0 l1 a2 = some r) :
    Calls Try.prog 35 #[.int .i64 a0, .slice A1 l1.length c1, .int .i64 a2] w fun e w' => e = .returned (.bool r) ∧ Below w.heap.size w w' := by
  unfold impl_tellsUpTo.f at h
  split at h
  case isFalse => cases h
  rename_i hb
  have H := Aside0.mk h
  have HR := Aside0.mk hr1
  have HC := Aside0.mk hc1
  have hmm := @run_makeMap Try.prog
  clear h hr1 hc1
  go_enter Try.func35, Try.ntmps35
  have hs0 : shl .u16 1 a0 = IntKind.u16.wrap (2 ^ a0.toNat) := by unfold shl; rw [Nat.min_eq_left (by simp only [IntKind.bits]; omega), Int.one_mul]
  rw [hs0] at H
  clear hs0
  have M0 : Aside0 (impl_tellsUpTo.Inv (w.alloc (.map #[] 0)) w.heap.size []) := ⟨impl_tellsUpTo.Inv.made w⟩
  have B0 : Aside0 (Below w.heap.size w (w.alloc (.map #[] 0))) := ⟨(Below.refl _ _).alloc (Nat.le_refl _) _⟩
  have S0 : Aside0 (0 ≤ (0 : Int)) := ⟨Int.le_refl _⟩
  go_wp2
  clear hmm
  generalize w.alloc (.map #[] 0) = w1 at M0 B0 ⊢
  generalize hlim : IntKind.u16.wrap (2 ^ a0.toNat) = lim at H ⊢
  go_loopg [13] k (fun gg v13 wr => ∃ (set : Int) (seen : List (List UInt8)), v13 = .int .u16 set ∧ Aside0 (impl_tellsUpTo.l0 gg l1 a2 lim seen set = some r) ∧ Aside0 (impl_tellsUpTo.Inv wr w.heap.size seen) ∧ Aside0 (Below w.heap.size w wr))
  case atStart => exact ⟨0, [], rfl, H, M0, B0⟩
  case round =>
    clear M0 B0 S0 H
    obtain ⟨set, seen, rfl, HA, M, BW⟩ := hrel
    cases gk with
    | zero => exact absurd HA.out (by simp [impl_tellsUpTo.l0])
    | succ k1 =>
      have H := HA.out
      clear HA
      simp only [impl_tellsUpTo.l0] at H
      by_cases b0 : set < lim
      · rw [if_pos b0] at H
        replace H := Option.bind_eq_some_iff.mp H
        obtain ⟨c, hc, H⟩ := H
        have b0b := decide_eq_true b0
        have HC1 := Aside0.mk hc
        clear hc b0
        by_cases b1 : a2 < c
        · rw [if_pos b1] at H
          have b1b := decide_eq_true b1
          have H' := Aside0.mk H
          clear b1 H
          go_wp2_with fail
          refine (bits_OnesCount16.calls set c _ HC1.out).mono ?_
          rintro e w3 ⟨rfl, ⟨nd, rfl⟩⟩
          have B3 := Aside0.mk (pw_below_drewN (Below.refl wr.heap.size wr) nd)
          have M3 := Aside0.mk (M.out.below B3.out)
          have BW3 := Aside0.mk (below_step BW.out B3.out)
          generalize wr.drewN nd = w3 at M3 BW3 ⊢
          clear M BW B3
          go_wp2
          go_roundg k1
          case measure => omega
          case rel => exact ⟨_, seen, rfl, H', M3, BW3⟩
        · rw [if_neg b1] at H
          have b1b := decide_eq_false b1
          replace H := Option.bind_eq_some_iff.mp H
          obtain ⟨key, hkey, H⟩ := H
          by_cases b2 : key.size ≤ maxLen ∧ seen.length < 1000000
          case neg => rw [if_neg b2] at H; cases H
          rw [if_pos b2] at H
          have HK := Aside0.mk hkey
          have H2 := Aside0.mk b2
          have H' := Aside0.mk H
          clear H hkey b2 b1
          go_wp2_with fail
          refine (bits_OnesCount16.calls set c _ HC1.out).mono ?_
          rintro e w3 ⟨rfl, ⟨nd, rfl⟩⟩
          have B3 := Aside0.mk (pw_below_drewN (Below.refl wr.heap.size wr) nd)
          have M3 := Aside0.mk (M.out.below B3.out)
          have BW3 := Aside0.mk (below_step BW.out B3.out)
          generalize wr.drewN nd = w3 at M3 BW3 ⊢
          clear M BW B3
          go_wp2_with fail
          refine (impl_results.calls k1 A1 c1 l1 set key w3 (Kd.C_below HR.out BW3.out) HC.out HK.out).mono ?_
          rintro e w4 ⟨rfl, hb⟩
          have M4 := Aside0.mk (M3.out.below hb)
          have BW4 := Aside0.mk (below_step BW3.out hb)
          clear hb M3 BW3
          have hkl : keyOf Try.prog 9 (.string key) = some (.string key.data.toList) := by
            have := H2.out.1
            simp [keyOf, mapKey, Try.underlying9, this]
          obtain ⟨D, hown, hD, hat⟩ := M4.out
          obtain ⟨q, hrun, hq⟩ := impl_tellsUpTo.lookup_bool hown (Go.Maps.string_keyed Try.underlying9) Try.underlying60 Try.underlying4 (impl_tellsUpTo.zero4 _) hkl
          rw [hat] at hq
          have hq' : q = decide (key.data.toList ∈ seen) := by injection hq with hq; injection hq with hq; exact hq.symm
          clear hq
          by_cases b3 : key.data.toList ∈ seen
          · rw [decide_eq_true b3] at hq'
            subst hq'
            have h := H'.out
            rw [if_pos b3] at h
            obtain rfl := Option.some.inj h
            clear h
            go_wp2
            go_ret
            exact ⟨rfl, BW4.out⟩
          · rw [decide_eq_false b3] at hq'
            subst hq'
            have h := H'.out
            rw [if_neg b3] at h
            have H6 := Aside0.mk h
            obtain ⟨w5, hupd, hown5, hg5⟩ := hown.update (Go.Maps.string_keyed Try.underlying9) Try.underlying60 (by have := H2.out.2; simp only [maxLen]; omega) hkl (plainElem_bool Try.underlying4 true)
            have BW5 := Aside0.mk (BW4.out.grown hg5 BW4.out.size (fun k hk => by injection hk with hk; omega))
            have M5 : Aside0 (impl_tellsUpTo.Inv w5 w.heap.size (seen ++ [key.data.toList])) := ⟨impl_tellsUpTo.Inv.put hown5 hD hat⟩
            clear h H' hown hat hown5 hg5 hD BW4 M4
            go_wp2
            go_roundg k1
            case measure => omega
            case rel => exact ⟨_, _, rfl, H6, M5, BW5⟩
      · rw [if_neg b0] at H
        have b0b := decide_eq_false b0
        obtain rfl := Option.some.inj H
        clear b0 H
        go_wp2
        go_ret
        exact ⟨rfl, BW.out⟩


/-! ### impl_TellsUpTo: function 12 -/
def impl_TellsUpTo.f (k : Nat) (a0 : Int) (l1 : List (List Int)) (a2 : Int) : Option (Bool × Bool) := (impl_AreTests.f a0 l1).bind fun t207 => (if t207 = true then ((impl_within.f a2 0 a0).bind fun t208 => (if t208 = true then ((impl_tellsUpTo.f k a0 l1 a2).bind fun t209 => (some (t209, true))) else (some (false, false)))) else (some (false, false)))
theorem impl_TellsUpTo.mono : ∀ a0 a1 a2 k, LeO (impl_TellsUpTo.f k a0 a1 a2) (impl_TellsUpTo.f (k + 1) a0 a1 a2) := by
  intro a0 a1 a2 k
  unfold impl_TellsUpTo.f
  repeat' first
      | (with_reducible exact impl_tellsUpTo.mono _ _ _ _)
      | (with_reducible exact LeO.refl _)
      | (with_reducible exact LeO.none _)
      | (with_reducible refine LeO.ite ?_ ?_)
      | (with_reducible refine LeO.bind ?_ (fun _ => ?_))
      | exact impl_tellsUpTo.mono _ _ _ _
      | exact LeO.none _
      | refine LeO.ite ?_ ?_
      | refine LeO.bind ?_ (fun _ => ?_)
set_option maxHeartbeats 8000000 in
set_option maxRecDepth 100000 in
theorem impl_TellsUpTo.calls (k : Nat) (a0 : Int) (A1 : Option Addr) (c1 : Nat) (l1 : List (List Int)) (a2 : Int) (r1 : Bool) (r2 : Bool) (w : World) (hr1 : Kd.C (Kd.slice 3 (Kd.int .i64)) w A1 l1.length l1) (hc1 : l1.length ≤ c1) (h : impl_TellsUpTo.f k a0 l1 a2 = some (r1, r2)) :
    Calls Try.prog 12 #[.int .i64 a0, .slice A1 l1.length c1, .int .i64 a2] w fun e w' => e = .returned (.tuple #[.bool r1, .bool r2]) ∧ Below w.heap.size w w' := by
  have HR1 := Aside0.mk hr1
  have HC1 := Aside0.mk hc1
  clear hr1 hc1
  have HB := Aside0.mk (Below.refl w.heap.size w)
  have H : ((impl_AreTests.f a0 l1).bind fun t207 => (if t207 = true then ((impl_within.f a2 0 a0).bind fun t208 => (if t208 = true then ((impl_tellsUpTo.f k a0 l1 a2).bind fun t209 => (some (t209, true))) else (some (false, false)))) else (some (false, false)))) = some (r1, r2) := h
  clear h
  replace H := Option.bind_eq_some_iff.mp H
  obtain ⟨t207, A40, H⟩ := H
  replace H : (if t207 = true then ((impl_within.f a2 0 a0).bind fun t208 => (if t208 = true then ((impl_tellsUpTo.f k a0 l1 a2).bind fun t209 => (some (t209, true))) else (some (false, false)))) else (some (false, false))) = some (r1, r2) := H
  have A4 := Aside0.mk A40
  clear A40
  by_cases c5 : t207 = true
  · subst c5
    have H1 : ((impl_within.f a2 0 a0).bind fun t208 => (if t208 = true then ((impl_tellsUpTo.f k a0 l1 a2).bind fun t209 => (some (t209, true))) else (some (false, false)))) = some (r1, r2) := by rw [if_pos rfl] at H; exact H
    clear H
    have H := H1
    clear H1
    replace H := Option.bind_eq_some_iff.mp H
    obtain ⟨t208, A60, H⟩ := H
    replace H : (if t208 = true then ((impl_tellsUpTo.f k a0 l1 a2).bind fun t209 => (some (t209, true))) else (some (false, false))) = some (r1, r2) := H
    have A6 := Aside0.mk A60
    clear A60
    by_cases c7 : t208 = true
    · subst c7
      have H1 : ((impl_tellsUpTo.f k a0 l1 a2).bind fun t209 => (some (t209, true))) = some (r1, r2) := by rw [if_pos rfl] at H; exact H
      clear H
      have H := H1
      clear H1
      replace H := Option.bind_eq_some_iff.mp H
      obtain ⟨t209, A80, H⟩ := H
      replace H : (some (t209, true)) = some (r1, r2) := H
      have A8 := Aside0.mk A80
      clear A80
      simp only [Option.some.injEq, Prod.mk.injEq] at H
      obtain ⟨rfl, rfl⟩ := H
      go_enter Try.func12, Try.ntmps12
      go_wp2_with (first | ((with_reducible refine gate_callee (f := 33) rfl ?_); refine goesL_ (some 10) rfl rfl Try.func33 (by kernel_rfl) rfl #[.int .i64 a0, .slice A1 l1.length c1] rfl (by (try simp only [List.map_toArray, List.map_cons, List.map_nil]); first | done | rfl | (simp only [List.length_drop, List.length_take]; rfl) | (simp; done) | (refine congrArg Value.bool ?_; simp; done) | (refine congrArg (fun z_ => #[Value.bool z_]) ?_; simp; done)) ?_; (with_reducible refine (impl_AreTests.calls a0 _ _ l1 true _ ?side1 ?side2 A4.out).mono ?_); (case side1 => repeat (first | exact HR1.out | (with_reducible refine Kd.C_alloc ?_ _) | (with_reducible refine Kd.C_drewN ?_ _) | (with_reducible refine Kd.C_drew ?_))); (case side2 => exact HC1.out); rintro e w9 ⟨rfl, hb⟩; refine ⟨_, rfl, ?_⟩; have n0_ := Aside0.mk (below_step (by repeat (first | (with_reducible first | exact HB.out | apply below_alloc | apply pw_below_drewN | apply below_drew1) | exact HB.out)) hb); clear HB; have HB := n0_; clear n0_; (try clear hb); (try clear hb2); (try clear hk); (try clear hi)) | (go_at_call 34; (with_reducible refine (impl_within.calls a2 0 a0 true _ A6.out).mono ?_); rintro e w' ⟨rfl, ⟨nd, rfl⟩⟩) | ((with_reducible refine gate_callee (f := 35) rfl ?_); refine goesL_ (some 21) rfl rfl Try.func35 (by kernel_rfl) rfl #[.int .i64 a0, .slice A1 l1.length c1, .int .i64 a2] rfl (by (try simp only [List.map_toArray, List.map_cons, List.map_nil]); first | done | rfl | (simp only [List.length_drop, List.length_take]; rfl) | (simp; done) | (refine congrArg Value.bool ?_; simp; done) | (refine congrArg (fun z_ => #[Value.bool z_]) ?_; simp; done)) ?_; (with_reducible refine (impl_tellsUpTo.calls k a0 _ _ l1 a2 t209 _ ?side1 ?side2 A8.out).mono ?_); (case side1 => repeat (first | exact (Kd.C_below HR1.out (by repeat (first | (with_reducible first | exact HB.out | apply below_alloc | apply pw_below_drewN | apply below_drew1) | exact HB.out))) | (with_reducible refine Kd.C_alloc ?_ _) | (with_reducible refine Kd.C_drewN ?_ _) | (with_reducible refine Kd.C_drew ?_))); (case side2 => exact HC1.out); rintro e w10 ⟨rfl, hb⟩; refine ⟨_, rfl, ?_⟩; have n0_ := Aside0.mk (below_step (by repeat (first | (with_reducible first | exact HB.out | apply below_alloc | apply pw_below_drewN | apply below_drew1) | exact HB.out)) hb); clear HB; have HB := n0_; clear n0_; (try clear hb); (try clear hb2); (try clear hk); (try clear hi)))
      go_ret2
      exact ⟨by first | rfl | (simp [errW_none, errW_some] <;> rfl) | (simp [*, errW_none, errW_some] <;> rfl), by repeat (first | (with_reducible first | exact HB.out | apply below_alloc | apply pw_below_drewN | apply below_drew1) | exact HB.out)⟩
    · replace c7 := Bool.eq_false_iff.mpr c7
      subst c7
      have H1 : (some (false, false)) = some (r1, r2) := by rw [if_neg (show ¬ (false = true) by decide)] at H; exact H
      clear H
      have H := H1
      clear H1
      simp only [Option.some.injEq, Prod.mk.injEq] at H
      obtain ⟨rfl, rfl⟩ := H
      go_enter Try.func12, Try.ntmps12
      go_wp2_with (first | ((with_reducible refine gate_callee (f := 33) rfl ?_); refine goesL_ (some 10) rfl rfl Try.func33 (by kernel_rfl) rfl #[.int .i64 a0, .slice A1 l1.length c1] rfl (by (try simp only [List.map_toArray, List.map_cons, List.map_nil]); first | done | rfl | (simp only [List.length_drop, List.length_take]; rfl) | (simp; done) | (refine congrArg Value.bool ?_; simp; done) | (refine congrArg (fun z_ => #[Value.bool z_]) ?_; simp; done)) ?_; (with_reducible refine (impl_AreTests.calls a0 _ _ l1 true _ ?side1 ?side2 A4.out).mono ?_); (case side1 => repeat (first | exact HR1.out | (with_reducible refine Kd.C_alloc ?_ _) | (with_reducible refine Kd.C_drewN ?_ _) | (with_reducible refine Kd.C_drew ?_))); (case side2 => exact HC1.out); rintro e w11 ⟨rfl, hb⟩; refine ⟨_, rfl, ?_⟩; have n0_ := Aside0.mk (below_step (by repeat (first | (with_reducible first | exact HB.out | apply below_alloc | apply pw_below_drewN | apply below_drew1) | exact HB.out)) hb); clear HB; have HB := n0_; clear n0_; (try clear hb); (try clear hb2); (try clear hk); (try clear hi)) | (go_at_call 34; (with_reducible refine (impl_within.calls a2 0 a0 false _ A6.out).mono ?_); rintro e w' ⟨rfl, ⟨nd, rfl⟩⟩))
      go_ret2
      exact ⟨by first | rfl | (simp [errW_none, errW_some] <;> rfl) | (simp [*, errW_none, errW_some] <;> rfl), by repeat (first | (with_reducible first | exact HB.out | apply below_alloc | apply pw_below_drewN | apply below_drew1) | exact HB.out)⟩
  · replace c5 := Bool.eq_false_iff.mpr c5
    subst c5
    have H1 : (some (false, false)) = some (r1, r2) := by rw [if_neg (show ¬ (false = true) by decide)] at H; exact H
    clear H
    have H := H1
    clear H1
    simp only [Option.some.injEq, Prod.mk.injEq] at H
    obtain ⟨rfl, rfl⟩ := H
    go_enter Try.func12, Try.ntmps12
    go_wp2_with (first | ((with_reducible refine gate_callee (f := 33) rfl ?_); refine goesL_ (some 10) rfl rfl Try.func33 (by kernel_rfl) rfl #[.int .i64 a0, .slice A1 l1.length c1] rfl (by (try simp only [List.map_toArray, List.map_cons, List.map_nil]); first | done | rfl | (simp only [List.length_drop, List.length_take]; rfl) | (simp; done) | (refine congrArg Value.bool ?_; simp; done) | (refine congrArg (fun z_ => #[Value.bool z_]) ?_; simp; done)) ?_; (with_reducible refine (impl_AreTests.calls a0 _ _ l1 false _ ?side1 ?side2 A4.out).mono ?_); (case side1 => repeat (first | exact HR1.out | (with_reducible refine Kd.C_alloc ?_ _) | (with_reducible refine Kd.C_drewN ?_ _) | (with_reducible refine Kd.C_drew ?_))); (case side2 => exact HC1.out); rintro e w12 ⟨rfl, hb⟩; refine ⟨_, rfl, ?_⟩; have n0_ := Aside0.mk (below_step (by repeat (first | (with_reducible first | exact HB.out | apply below_alloc | apply pw_below_drewN | apply below_drew1) | exact HB.out)) hb); clear HB; have HB := n0_; clear n0_; (try clear hb); (try clear hb2); (try clear hk); (try clear hi)))
    go_ret2
    exact ⟨by first | rfl | (simp [errW_none, errW_some] <;> rfl) | (simp [*, errW_none, errW_some] <;> rfl), by repeat (first | (with_reducible first | exact HB.out | apply below_alloc | apply pw_below_drewN | apply below_drew1) | exact HB.out)⟩

-- NOT PRINTED: function 37 (impl_indices)

-- NOT PRINTED: function 63 (slices_Delete_int_int)

/-! ### slices_Clone_int_int: function 64 -/
def slices_Clone_int_int.f (l0 : (List (List Int))) : Option ((List (List Int))) := if l0.length < 5864062014805 then some l0 else none
theorem slices_Clone_int_int.none_ {w : World} {n : Nat} {l0 : (List (List Int))} (h : Kd.C (Kd.slice 3 (Kd.int .i64)) w none n l0) : n = 0 := by
  rcases Nat.eq_zero_or_pos n with e | e
  · exact e
  · obtain ⟨ad, h1, _⟩ := h.2.2 e
    cases h1
set_option maxRecDepth 100000 in
theorem slices_Clone_int_int.calls (A0 : Option Addr) (c0 : Nat) (l0 : (List (List Int))) (r : (List (List Int))) (w : World) (hr0 : Kd.C (Kd.slice 3 (Kd.int .i64)) w A0 l0.length l0) (hc0 : l0.length ≤ c0) (h : slices_Clone_int_int.f l0 = some r) :
    Calls Try.prog 64 #[.slice A0 l0.length c0] w fun e w' => ∃ v0_ : Value, e = .returned (v0_) ∧ Kd.N (Kd.slice 3 (Kd.int .i64)) 32 w' w.heap.size (fun _ => True) v0_ r ∧ Below w.heap.size w w' := by
  unfold slices_Clone_int_int.f at h
  split at h
  case isFalse => cases h
  rename_i hlim
  obtain rfl := Option.some.inj h
  have LM := Aside0.mk hlim
  have FR0 : Aside0 (Kd.F (Kd.slice 3 (Kd.int .i64)) w (fun k => k < w.heap.size) A0 l0.length l0) := ⟨fun W' hW => (Kd.heap_slice 3 (Kd.heap_int .i64)).C (fun k hk => hW k hk hk) hr0⟩
  have HR0 := Aside0.mk hr0
  have HC0 := Aside0.mk hc0
  have HB := Aside0.mk (Below.refl w.heap.size w)
  clear h hlim hr0 hc0
  cases A0 with
  | none =>
    have h0 := slices_Clone_int_int.none_ HR0.out
    obtain rfl := List.eq_nil_of_length_eq_zero h0
    clear h0
    have he : ∀ w : World, (binOp .eql 22 (.slice none 0 c0) (.slice none 0 0)).run Try.prog w = .ok (.bool true) w := fun _ => rfl
    go_enter Try.func64, Try.ntmps64
    go_wp2
    go_ret
    exact ⟨_, rfl, Kd.N_nil _ _ _ _ _, HB.out⟩
  | some ad =>
    have he : ∀ w : World, (binOp .eql 22 (.slice (some ad) l0.length c0) (.slice none 0 0)).run Try.prog w = .ok (.bool false) w := fun _ => rfl
    go_enter Try.func64, Try.ntmps64
    go_wp2_with (first | ((with_reducible refine gate_dst (N := 5) rfl ?_); refine Kd.N_lit (Kd.slice 3 (Kd.int .i64)) _ 32 ?hg (N' := 5) ?hd (xs := ([] : (List (List Int)))) (inner := []) (ok := fun _ => True) (okp := fun _ => True) ?hr ?hp (fun _ hk => hk) trivial (Below.refl _ _) (Nat.le_refl _) (by simp) ?_; (case hd => rfl); (case hg => rfl); (case hr => first | (go_simp; done) | (go_simp; rfl)); (case hp => exact (Reps.none _ _)); intro v1 w3 ho4 hb hg_ hnew_; clear hg_ hnew_; have n0_ := Aside0.mk (Kd.N_lower ho4 (below_size (by repeat (first | (with_reducible first | exact HB.out | apply below_alloc | apply pw_below_drewN | apply below_drew1) | exact HB.out)))); have n1_ := Aside0.mk (below_step (by repeat (first | (with_reducible first | exact HB.out | apply below_alloc | apply pw_below_drewN | apply below_drew1) | exact HB.out)) hb); clear HB; have NB1 := Aside0.mk (Kd.N_base n0_.out); have HO1 := n0_; have HB := n1_; clear n0_ n1_; clear hb ho4) | ((with_reducible refine gate_builtin (b := .append) (xs := #[.tmp 5, .tmp 6]) rfl ?_); at_builtin; refine Kd.N_append_rows (Kd.slice 3 (Kd.int .i64)) (w0 := w) w.heap.size rfl (.tmp 5) (.tmp 6) 22 32 (.slice none 0 0) 24 rfl Try.underlying22 info32 rfl (by decide) (by omega) v1 [] l0 _ _ _ (fun _ => True) (fun k => k < w.heap.size) rfl rfl ?aO ?aR ?aK (fun _ _ => trivial) ?aB ?aS ?aL ?_; (case aR => exact (Kd.F_below FR0.out (by repeat (first | exact HB.out | apply below_alloc | apply pw_below_drewN | apply below_drew1)))); (case aK => exact (fun k hk => ⟨trivial, fun he => Nat.lt_irrefl _ (Nat.lt_of_lt_of_le hk (NB1.out k he.symm))⟩)); (case aB => exact (by repeat (first | (with_reducible first | exact HB.out | apply below_alloc | apply pw_below_drewN | apply below_drew1) | exact HB.out))); skip; (case aO => exact (by (with_reducible repeat (first | apply Kd.N_alloc | apply Kd.N_drewN | apply Kd.N_drew)); exact HO1.out)); (case aS => exact (below_size (by repeat (first | (with_reducible first | exact HB.out | apply below_alloc | apply pw_below_drewN | apply below_drew1) | exact HB.out)))); (case aL => have := LM.out; simp only [List.length_nil]; omega); intro v2 w5 ho hb hg hat; rw [List.nil_append] at ho; have n0_ := Aside0.mk (hb); have n1_ := Aside0.mk (ho); clear HB; clear HO1; have HB := n0_; have HO2 := n1_; clear n0_ n1_; clear ho hb hg hat))
    go_ret
    exact ⟨_, rfl, by (with_reducible repeat (first | apply Kd.N_alloc | apply Kd.N_drewN | apply Kd.N_drew)); exact HO2.out, by repeat (first | (with_reducible first | exact HB.out | apply below_alloc | apply pw_below_drewN | apply below_drew1) | exact HB.out)⟩


/-! ### impl_without_int: function 39 -/
def impl_without_int.T5 : Bool × List (List Nat × List Nat) := (true, [([], []), ([], []), ([0, 1], [0, 1]), ([], []), ([], []), ([3, 4], [3, 4]), ([2, 5], [2, 5]), ([6, 6, 0, 1, 2, 3, 4, 5, 6], [0, 3, 6])])
def impl_without_int.B5 : List Nat := [0, 0, 3, 0, 0, 24, 63, 127]
theorem impl_without_int.tab5 : rtab .any (opsOf Try.f63 5) = impl_without_int.T5 := by kernel_rfl
theorem impl_without_int.bits5 : waitsOk impl_without_int.T5.2 impl_without_int.B5 = true := by kernel_rfl
theorem impl_without_int.own_clear {W : World} {base e sz n c g : Nat} {inner : List Value} (h : W.ownsRow base e sz (.slice (some ⟨g, 0, none⟩) n c) n inner) (vs : List Value) (hv : n * sz + vs.length ≤ c * sz) : (W.setCells g (n * sz) vs).ownsRow base e sz (.slice (some ⟨g, 0, none⟩) n c) n inner := by
  obtain ⟨h1, h2⟩ := h
  rcases h2 with ⟨h2, _⟩ | ⟨g', cap, cur, he, hb, hh, hn, hm, hs, ht⟩
  · cases h2
  · injection he with ha _ hc
    injection ha with ha
    injection ha with hg
    subst hg hc
    obtain ⟨cur', k1, k2, k3⟩ := setCells_row vs (n * sz) W cur hh (by rw [hs]; exact hv)
    refine ⟨h1, .inr ⟨g, c, cur', rfl, hb, k1, hn, hm, by rw [k2, hs], ?_⟩⟩
    have hl : n * sz ≤ cur.toList.length := by rw [Array.length_toList, hs]; omega
    rw [k3, List.append_assoc, List.take_append_of_le_length (by rw [List.length_take]; omega), List.take_take, Nat.min_self]
    exact ht
set_option maxRecDepth 100000 in
theorem impl_without_int.clear_run {W : World} {base g m c ty : Nat} {inner : List Value} (h : W.ownsRow base 32 1 (.slice (some ⟨g, 0, none⟩) m c) m inner) (hc : m + 1 ≤ c) (c' : Nat) :
    (Builtin.clear_ #[22] ty #[.slice (some ⟨g, m, none⟩) 1 c']).run Try.prog W = .ok (.tuple #[]) (W.setCells g m [.slice none 0 0]) := by
  obtain ⟨h1, h2⟩ := h
  rcases h2 with ⟨h2, _⟩ | ⟨g', cap, cur, he, hb, hh, hn, hm, hs, ht⟩
  · cases h2
  · injection he with ha _ hcc
    injection ha with ha
    injection ha with hg
    subst hg hcc
    have hst := run_storeCells_cells (P := Try.prog) g m [.slice none 0 0] 0 W (fun j hj => by
        simp only [List.length_cons, List.length_nil] at hj
        have : m + j < cur.size := by omega
        simp [World.cell?, hh, this]) (fun j hj => by simp [World.frozen?, hh]) (fun v hv => by simp at hv; subst hv; rfl)
    simp only [Nat.add_zero] at hst
    have hz : ∀ w, (zeroValue 32).run Try.prog w = .ok (.slice none 0 0) w := fun _ => rfl
    have hzc : (Builtin.zeroCells (Value.slice none 0 0).cells 1).toList = [.slice none 0 0] := by kernel_rfl
    simp [Builtin.clear_, run_underlying Try.underlying22, hz, hzc, hst]
set_option maxHeartbeats 2000000 in
set_option maxRecDepth 100000 in
theorem impl_without_int.one (base g m c k : Nat) (xs : (List (List Int))) (ok : Nat → Prop) (W : World) (HO : Kd.N (Kd.slice 3 (Kd.int .i64)) 32 W base ok (.slice (some ⟨g, 0, none⟩) (m + 1) c) xs) (hk : k < m + 1) (hn : m ≤ 1000000000) (hb : base ≤ W.heap.size) :
    Calls Try.prog 63 #[.slice (some ⟨g, 0, none⟩) (m + 1) c, .int .i64 (k : Int), .int .i64 ((k + 1 : Nat) : Int)] W fun e w' => e = .returned (.slice (some ⟨g, 0, none⟩) m c) ∧ Kd.N (Kd.slice 3 (Kd.int .i64)) 32 w' base ok (.slice (some ⟨g, 0, none⟩) m c) (xs.eraseIdx k) ∧ Below base W w' := by
  have hmc : m + 1 ≤ c := (Kd.N_reads' HO).2.1
  have HR := Aside0.mk HO
  have HMC := Aside0.mk hmc
  have HB := Aside0.mk (Below.refl base W)
  have HBS := Aside0.mk hb
  have d1 : decide (0 ≤ (k : Int)) = true := decide_eq_true (by omega)
  have d2 : decide ((k : Int) ≤ ((k + 1 : Nat) : Int)) = true := decide_eq_true (by omega)
  have d3 : decide (((k + 1 : Nat) : Int) ≤ ((m + 1 : Nat) : Int)) = true := decide_eq_true (by omega)
  have d4 : decide (((m + 1 : Nat) : Int) ≤ (c : Int)) = true := decide_eq_true (by omega)
  have p2 : (k : Int) ≤ ((k + 1 : Nat) : Int) := by omega
  have p3 : ((k + 1 : Nat) : Int) ≤ ((m + 1 : Nat) : Int) := by omega
  have p4 : ((m + 1 : Nat) : Int) ≤ (c : Int) := by omega
  have ne : ((k : Int) == ((k + 1 : Nat) : Int)) = false := beq_eq_false_iff_ne.mpr (by omega)
  have q1 : (k ≤ c) = True := eq_true (by omega)
  have q2 : (0 ≤ (k : Int) + 1) = True := eq_true (by omega)
  have q3 : (k ≤ m) = True := eq_true (by omega)
  clear HO
  go_enter Try.func63, Try.ntmps63
  go_wp2
  refine start_ (n := 8) (S := fun _ => True) (ds := []) #[false, false, false, false, false, false, false, false] (by kernel_rfl) rfl rfl trivial (fun hHeld => ?_); refine with_tabW impl_without_int.tab5 impl_without_int.bits5 (fun HT_ HW_ => ?_)
  have HRD := Aside0.mk (Kd.N_drew HR.out)
  have HBD := Aside0.mk (below_drew HB.out)
  generalize W.drew = wd at HRD HBD ⊢
  refine pure_ (i := 0) (N := some 20) (v := ?_) (a' := ?_) #[true, false, false, false, false, false, false, false] rfl rfl (any_of HT_.out (by kernel_rfl)) (fun _ _ _ h => h) (Or.inl ⟨by rfl, ?_⟩) ?_ ?_
  rotate_left
  · intro w'
    go_simp
    with_reducible rfl
  rotate_left
  · simp only [Act.put, List.setIfInBounds_toArray, List.set_cons_zero, List.set_cons_succ, i64_w, i32_w]
    rfl
  refine pure_ (i := 1) (N := some 21) (v := ?_) (a' := ?_) #[true, true, false, false, false, false, false, false] rfl rfl (any_of HT_.out (by kernel_rfl)) (fun _ _ _ h => h) (Or.inl ⟨by rfl, ?_⟩) ?_ ?_
  rotate_left
  · intro w'
    go_simp
    with_reducible rfl
  rotate_left
  · simp only [Act.put, List.setIfInBounds_toArray, List.set_cons_zero, List.set_cons_succ, i64_w, i32_w]
    rfl
  refine pure_ (i := 3) (N := some 23) (v := ?_) (a' := ?_) #[true, true, false, true, false, false, false, false] rfl rfl (any_of HT_.out (by kernel_rfl)) (fun _ _ _ h => h) (Or.inl ⟨by rfl, ?_⟩) ?_ ?_
  rotate_left
  · intro w'
    go_simp
    with_reducible rfl
  rotate_left
  · simp only [Act.put, List.setIfInBounds_toArray, List.set_cons_zero, List.set_cons_succ, i64_w, i32_w]
    rfl
  refine pure_ (i := 4) (N := some 24) (v := ?_) (a' := ?_) #[true, true, false, true, true, false, false, false] rfl rfl (any_of HT_.out (by kernel_rfl)) (fun _ _ _ h => h) (Or.inl ⟨by rfl, ?_⟩) ?_ ?_
  rotate_left
  · intro w'
    go_simp
    with_reducible rfl
  rotate_left
  · simp only [Act.put, List.setIfInBounds_toArray, List.set_cons_zero, List.set_cons_succ, i64_w, i32_w]
    rfl
  refine pure_ (i := 2) (N := some 22) (v := ?_) (a' := ?_) #[true, true, true, true, true, false, false, false] rfl rfl (any_of HT_.out (by kernel_rfl)) (fun _ _ _ h => h) (Or.inl ⟨by rfl, ?_⟩) ?_ ?_
  rotate_left
  · intro w'
    go_simp
    with_reducible rfl
  rotate_left
  · simp only [Act.put, List.setIfInBounds_toArray, List.set_cons_zero, List.set_cons_succ, i64_w, i32_w]
    rfl
  refine pure_ (i := 5) (N := some 25) (v := ?_) (a' := ?_) #[true, true, true, true, true, true, false, false] rfl rfl (any_of HT_.out (by kernel_rfl)) (fun _ _ _ h => h) (Or.inl ⟨by rfl, ?_⟩) ?_ ?_
  rotate_left
  · intro w'
    go_simp
    with_reducible rfl
  rotate_left
  · simp only [Act.put, List.setIfInBounds_toArray, List.set_cons_zero, List.set_cons_succ, i64_w, i32_w]
    rfl
  obtain ⟨A25, hA25⟩ : ∃ A25 : Option Addr, (if c = k + 1 then some (⟨g, 0, none⟩ : Addr) else some ⟨g, k + 1, none⟩) = A25 := ⟨_, rfl⟩
  rw [hA25]
  refine one_ (i := 6) (N := some 26) #[true, true, true, true, true, true, true, false] rfl rfl (one_of HT_.out (by kernel_rfl)) (by decide) (fun K hK => ?_)
  refine Kd.N_delete_step (Kd.slice 3 (Kd.int .i64)) (w0 := W) base (by rfl) (.tmp 22) (.tmp 25) 22 32 rfl Try.underlying22 (by kernel_rfl) (n := m + 1) (k := k) rfl rfl ?hA ?hm HRD.out hk HBD.out (Nat.le_trans HBS.out ?hsz) ?_
  case hA =>
    rw [← hA25]
    split
    · rfl
    · have e1 : (k + 1) * (Kd.slice 3 (Kd.int .i64)).sz = k + 1 := Nat.mul_one _
      simp only [Option.map_some]
      rw [e1]
      first
      | rw [add_at, Nat.zero_add]
      | rw [Kd.add_at, Nat.zero_add]
  case hm => omega
  case hsz => exact HBD.out.size
  intro w1 ho hb hg
  have HR1 := Aside0.mk ho
  have HB1 := Aside0.mk hb
  clear ho hb hg
  refine hK.out _ _ trivial (fun hHeld => ?_)
  clear hK K
  refine norm_ (a' := ?_) ?_ ?_
  rotate_left
  · show Act.put _ (some 26) _ = _
    simp only [Act.put, List.setIfInBounds_toArray, List.set_cons_zero, List.set_cons_succ, i64_w, i32_w]
    rfl
  refine pure_ (i := 7) (N := some 0) (v := ?_) (a' := ?_) #[true, true, true, true, true, true, true, true] rfl rfl (any_of HT_.out (by kernel_rfl)) (fun _ _ _ h => h) (Or.inl ⟨by rfl, ?_⟩) ?_ ?_
  rotate_left
  · intro w'
    go_simp
    with_reducible rfl
  rotate_left
  · simp only [Act.put, List.setIfInBounds_toArray, List.set_cons_zero, List.set_cons_succ, i64_w, i32_w]
    rfl
  refine done_ (done_of HT_.out (by kernel_rfl)) ?_
  have c1 : (c = m) = False := eq_false (by omega)
  have c2 : (m ≤ m + 1) = True := eq_true (by omega)
  have c3 : (m + 1 ≤ c) = True := eq_true (by omega)
  have c4 : m + 1 - 1 = m := by omega
  have c5 : m + 1 - m = 1 := by omega
  obtain ⟨hlen1, hc1, _⟩ := Kd.N_reads' HR1.out
  have hel : (xs.eraseIdx k).length = m := by omega
  obtain ⟨hok1, rows, hrl, hR, hf⟩ := HR1.out
  obtain ⟨hok2, inner, hown, hrp⟩ := hR
  have hown : w1.ownsRow base 32 1 (.slice (some ⟨g, 0, none⟩) m c) m inner := by
    have := hown
    rw [hrl, hel, c4] at this
    exact this
  have hcl := fun ty => impl_without_int.clear_run (ty := ty) hown (by omega) (c - m)
  have hon := impl_without_int.own_clear (sz := 1) hown [.slice none 0 0] (by simp; omega)
  rw [Nat.mul_one] at hon
  have HOWN := Aside0.mk hon
  have HRP := Aside0.mk hrp
  have HOK := Aside0.mk hok1
  have HOK2 := Aside0.mk hok2
  have HF := Aside0.mk hf
  clear hon hown hrp hok1 hlen1 hok2 hf
  go_wp2_with fail
  go_ret
  obtain ⟨s1, s2, s3, s4⟩ := setCells_same g [Value.slice none 0 0] m w1
  have hfar : ∀ k', k' ≠ g → (w1.setCells g m [Value.slice none 0 0]).heap[k']? = w1.heap[k']? := fun k' hk' => setCells_far [Value.slice none 0 0] _ k' hk'
  have hgr : w1.grownBy (w1.setCells g m [Value.slice none 0 0]) (some g) := ⟨s1, s2, s3, by rw [s4]; exact Nat.le_refl _, fun k' _ hk' => hfar k' (fun he => hk' (by rw [he]))⟩
  have hgo : ∀ n, some g = (Value.slice (some ⟨g, 0, none⟩) n c).ownBlock := fun n => by simp [Value.ownBlock]
  refine ⟨rfl, ⟨fun k' hk' => HOK.out k' (by rw [← hgo] at hk' ⊢; exact hk'), rows, hrl, ⟨fun k' hk' => hk'.symm, inner, ?_, ?_⟩, fun j x c' hx hc' => ?_⟩, ?_⟩
  · rw [hrl, hel]
    exact HOWN.out
  · exact HRP.out.imp_ (fun p q hp => (Kd.raw 1).M_mono (fun k' hk' => ⟨by rw [← hgo]; rw [← hgo] at hk'; exact hk'.1, by rw [← hgo]; rw [← hgo] at hk'; exact hk'.2⟩) ((Kd.raw 1).M_move (fun k' hk' => hfar k' (fun he => hk'.2 (by rw [← hgo, he]))) hp))
  · exact Kd.FK_mono (Kd.FK_grown (HF.out j x c' hx hc') hgr (fun k' hk' => by rw [hgo]; exact hk'.2)) (fun k' hk' => ⟨hk'.1, by rw [← hgo]; rw [← hgo] at hk'; exact hk'.2⟩)
  · exact HB1.out.grown hgr (Nat.le_trans HBS.out HB1.out.size) (fun k' hk' => by injection hk' with hk'; subst hk'; exact Kd.N_base HR1.out _ (by simp [Value.ownBlock]))
def impl_without_int.f (l : (List (List Int))) (a1 : Int) : Option ((List (List Int))) := (slices_Clone_int_int.f l).bind fun t => if 0 ≤ a1 ∧ a1 < t.length ∧ t.length ≤ 1000000000 then some (t.eraseIdx a1.toNat) else none
set_option maxHeartbeats 2000000 in
set_option maxRecDepth 100000 in
theorem impl_without_int.calls (A0 : Option Addr) (c0 : Nat) (l0 : (List (List Int))) (a1 : Int) (r : (List (List Int))) (w : World) (hr0 : Kd.C (Kd.slice 3 (Kd.int .i64)) w A0 l0.length l0) (hc0 : l0.length ≤ c0) (h : impl_without_int.f l0 a1 = some r) :
    Calls Try.prog 39 #[.slice A0 l0.length c0, .int .i64 a1] w fun e w' => ∃ v0_ : Value, e = .returned (v0_) ∧ Kd.N (Kd.slice 3 (Kd.int .i64)) 32 w' w.heap.size (fun _ => True) v0_ r ∧ Below w.heap.size w w' := by
  unfold impl_without_int.f at h
  obtain ⟨t, ht, h⟩ := Option.bind_eq_some_iff.mp h
  split at h
  case isFalse => cases h
  rename_i hh
  obtain ⟨h1, h2, h3⟩ := hh
  obtain rfl := Option.some.inj h
  obtain ⟨kk, rfl⟩ := Int.eq_ofNat_of_zero_le h1
  obtain ⟨m, hm⟩ : ∃ m, t.length = m + 1 := ⟨t.length - 1, by omega⟩
  have HR := Aside0.mk hr0
  have HC := Aside0.mk hc0
  have HT := Aside0.mk ht
  have HKM := Aside0.mk (show kk < m + 1 ∧ m ≤ 1000000000 by omega)
  have hw : wrap64 ((kk : Int) + 1) = ((kk + 1 : Nat) : Int) := by unfold wrap64; omega
  clear hr0 hc0 ht h1 h2 h3 h
  go_enter Try.func39, Try.ntmps39
  go_wp2_with fail
  refine (slices_Clone_int_int.calls A0 c0 l0 t _ HR.out HC.out HT.out).mono ?_
  rintro e w1 ⟨v1, rfl, hv, hb⟩
  obtain ⟨g, cap, rfl, _⟩ := Kd.N_form hv (by omega)
  rw [hm] at hv ⊢
  have HV := Aside0.mk hv
  have HB := Aside0.mk hb
  clear hv hb
  go_wp2_with fail
  have key := impl_without_int.one w.heap.size g m cap kk t (fun _ => True) w1 HV.out HKM.out.1 HKM.out.2 HB.out.size
  rw [show ((kk + 1 : Nat) : Int) = (kk : Int) + 1 from by omega] at key
  refine key.mono ?_
  rintro e w2 ⟨rfl, hv2, hb2⟩
  have HV2 := Aside0.mk hv2
  have HB2 := Aside0.mk (show Below w.heap.size w w2 from (HB.out).trans hb2)
  clear hv2 hb2 key
  go_wp2
  go_ret
  exact ⟨_, rfl, by rw [Int.toNat_natCast]; exact HV2.out, HB2.out⟩


-- NOT PRINTED: function 38 (impl_NeedlessTests_1)

end Go.Proofs.Ytbmhgmnlkeebcab.PFnExactNeedlessTests
