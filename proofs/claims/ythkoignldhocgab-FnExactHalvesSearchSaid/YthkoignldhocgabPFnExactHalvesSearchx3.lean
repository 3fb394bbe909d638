-- Written by a program of this claim, over the kit's print: the functions that a law reaches, their plain forms and the walks.
import Derived.Test.YthkoignldhocgabPFnExactHalvesSearchx0
import Derived.Test.YthkoignldhocgabPFnExactHalvesSearchx1
import Derived.Test.YthkoignldhocgabPFnExactHalvesSearchx2
namespace Go.Proofs.Ythkoignldhocgab.PFnExactHalvesSearch
open Go.RowKit Go.Proofs.YthkoignldhocgabW.PrintWords Go.Proofs.YthkoignldhocgabW.PrintLast Go.Proofs.YthkoignldhocgabW.PrintMore
attribute [local go_sem] max2_int min2_int max_two min_two max_three min_three max_four min_four   -- for this text's walks alone
set_option linter.unusedVariables false
set_option linter.unusedSimpArgs false

/-! ### impl_HalvesSearch_1: function 45 -/
/-- The indices less than n for which p holds. -/
def impl_HalvesSearch_1.p_idx (p : Nat → Bool) (n : Nat) : List Int := ((List.range n).filter p).map (fun (j : Nat) => (j : Int))
theorem impl_HalvesSearch_1.idx_succ (p : Nat → Bool) (n : Nat) : impl_HalvesSearch_1.p_idx p (n + 1) = if p n = true then impl_HalvesSearch_1.p_idx p n ++ [(n : Int)] else impl_HalvesSearch_1.p_idx p n := by
  unfold impl_HalvesSearch_1.p_idx
  rw [List.range_succ, List.filter_append, List.map_append]
  cases h : p n <;> simp [List.filter_cons, h]
theorem impl_HalvesSearch_1.idx_le (p : Nat → Bool) (n : Nat) : (impl_HalvesSearch_1.p_idx p n).length ≤ n := by
  unfold impl_HalvesSearch_1.p_idx
  rw [List.length_map]
  exact Nat.le_trans (List.length_filter_le _ _) (by simp)
theorem impl_HalvesSearch_1.indices (g : Nat) (lb : Array Value) (p : Nat → Bool) (n : Nat) (hn : n ≤ 1000) (w : World)
    (eg : ∀ args w, (callFunc g args).run Try.prog w = .ok (.enter g args) w)
    (hp : ∀ (W : World) (x : Nat), Below w.heap.size w W → x < n → Calls Try.prog g (#[.int .i64 (x : Int)] ++ lb) W fun e W' => e = .returned (.bool (p x)) ∧ Below W.heap.size W W') :
    Calls Try.prog 36 #[.int .i64 (n : Int), .func (.func g) #[] lb] w fun e w' => ∃ v0_ : Value, e = .returned v0_ ∧ Kd.R (Kd.int .i64) 3 w' w.heap.size (fun _ => True) v0_ (impl_HalvesSearch_1.p_idx p n) ∧ Below w.heap.size w w' := by
  have HP := Aside0.mk hp
  have HN := Aside0.mk hn
  clear hp
  go_enter Try.func36, Try.ntmps36
  go_wp2_with ((with_reducible refine gate_dst (N := 7) rfl ?_); refine Kd.R_lit (Kd.int .i64) _ 3 ?hg (N := 7) ?hd (xs := ([] : List Int)) (inner := []) (ok := fun _ => True) (okp := fun _ => True) ?hr ?hp (fun _ hk => hk) trivial (Below.refl _ _) (Nat.le_refl _) (by simp) ?_; (case hd => rfl); (case hg => rfl); (case hr => first | (go_simp; done) | (go_simp; rfl)); (case hp => exact (Reps.none _ _)); intro v1 w1 ho1 hb1 hg_ hnew_; clear hg_ hnew_; have O1 := Aside0.mk ho1; have B1 := Aside0.mk hb1; clear ho1 hb1)
  go_loopg [5, 9] n (fun gg v5 v9 wr => ∃ x : Nat, v9 = .int .i64 (x : Int) ∧ Aside0 (x ≤ n ∧ n - x ≤ gg) ∧ Aside0 (Below w.heap.size w wr) ∧ Aside0 (Kd.R (Kd.int .i64) 3 wr w.heap.size (fun _ => True) v5 (impl_HalvesSearch_1.p_idx p x)))
  case atStart => exact ⟨0, rfl, ⟨by omega, by omega⟩, B1, O1⟩
  case round =>
    clear B1 O1
    obtain ⟨x, rfl, HX, BW, O⟩ := hrel
    by_cases hlt : x < n
    · have hcall := HP.out wr x BW.out hlt
      have HL := Aside0.mk hlt
      have d1 : decide ((x : Int) < (n : Int)) = true := decide_eq_true (by omega)
      have d0 : decide (x < n) = true := decide_eq_true hlt
      have hup : wrap64 ((x : Int) + 1) = ((x + 1 : Nat) : Int) := by have := HN.out; unfold wrap64; omega
      have HU := Aside0.mk hup
      clear hup hlt hn
      cases hq : p x with
      | true =>
        rw [hq] at hcall
        have HQ := Aside0.mk hq
        clear hq
        have hle := impl_HalvesSearch_1.idx_le p x
        have HLE := Aside0.mk hle
        clear hle
        go_wp2_with fail
        refine hcall.mono ?_
        rintro e w2 ⟨rfl, hb2⟩
        have n0 := Aside0.mk (Kd.R_below O.out hb2)
        have n1 := Aside0.mk (below_step BW.out hb2)
        clear O BW hb2
        go_wp2_with ((with_reducible refine gate_builtin (b := .append) (xs := #[.tmp 15, .tmp 17]) rfl ?_); at_builtin; refine Kd.R_append (Kd.int .i64) (w0 := w) w.heap.size rfl (.tmp 15) (.tmp 17) 32 3 (.int .i64 0) 8 rfl Try.underlying32 info3 rfl (by decide) (by omega) _ (impl_HalvesSearch_1.p_idx p x) (x : Int) [.int .i64 (x : Int)] (fun _ => True) (fun _ => False) rfl rfl ?aP (fun _ hk => hk.elim) ?aF ?aO ?aB ?aS ?aL ?_; (case aP => exact rfl); (case aB => exact n1.out); (case aF => exact (fun _ _ => trivial)); (case aO => exact n0.out); (case aS => exact n1.out.size); (case aL => have := HLE.out; have := HN.out; have := HL.out; omega); intro v3 w3 ho3 hb3 hg_ hat_; clear hg_ hat_; have O := Aside0.mk ho3; have BW := Aside0.mk hb3; clear ho3 hb3 n0 n1)
        go_roundg (n - (x + 1))
        case measure => have := HX.out; have := HL.out; omega
        case rel => exact ⟨x + 1, by rw [HU.out], ⟨by have := HL.out; omega, by omega⟩, BW, ⟨by rw [impl_HalvesSearch_1.idx_succ, if_pos HQ.out]; exact O.out⟩⟩
      | false =>
        rw [hq] at hcall
        have HQ := Aside0.mk hq
        clear hq
        go_wp2_with fail
        refine hcall.mono ?_
        rintro e w2 ⟨rfl, hb2⟩
        have n0 := Aside0.mk (Kd.R_below O.out hb2)
        have n1 := Aside0.mk (below_step BW.out hb2)
        clear O BW hb2
        go_wp2
        go_roundg (n - (x + 1))
        case measure => have := HX.out; have := HL.out; omega
        case rel => exact ⟨x + 1, by rw [HU.out], ⟨by have := HL.out; omega, by omega⟩, n1, ⟨by rw [impl_HalvesSearch_1.idx_succ, if_neg (by rw [HQ.out]; decide)]; exact n0.out⟩⟩
    · have HL := Aside0.mk hlt
      have d1 : decide ((x : Int) < (n : Int)) = false := decide_eq_false (by omega)
      have d0 : decide (x < n) = false := decide_eq_false hlt
      clear hlt
      go_wp2
      go_ret
      have e : x = n := by have := HX.out; have := HL.out; omega
      subst e
      exact ⟨_, rfl, O.out, BW.out⟩
theorem impl_HalvesSearch_1.clos (x : Nat) (w : World) :
    Calls Try.prog 45 #[.int .i64 (x : Int)] w fun e w' => e = .returned (.bool true) ∧ Below w.heap.size w w' := by
  go_enter Try.func45, Try.ntmps45
  go_wp2
  go_ret
  exact ⟨by first | rfl | simp, by repeat (first | exact Below.refl _ _ | apply below_alloc | apply pw_below_drewN)⟩
def impl_HalvesSearch_1.f (n : Int) : Option (List Int) := if 0 ≤ n ∧ n ≤ 1000 then some (impl_HalvesSearch_1.p_idx (fun _ => true) n.toNat) else none
theorem impl_HalvesSearch_1.calls (n : Int) (r : List Int) (w : World) (h : impl_HalvesSearch_1.f n = some r) :
    Calls Try.prog 36 #[.int .i64 n, .func (.func 45) #[] #[]] w fun e w' => ∃ v0_ : Value, e = .returned v0_ ∧ Kd.R (Kd.int .i64) 3 w' w.heap.size (fun _ => True) v0_ r ∧ Below w.heap.size w w' := by
  have eg : ∀ args w, (callFunc 45 args).run Try.prog w = .ok (.enter 45 args) w := Go.Proofs.enters_of Try.func45 (by kernel_rfl) rfl
  unfold impl_HalvesSearch_1.f at h
  split at h
  · rename_i hb
    cases h
    obtain ⟨b1, b2⟩ := hb
    have := impl_HalvesSearch_1.indices 45 #[] (fun _ => true) n.toNat (by omega) w eg (fun W' x hb' hx => impl_HalvesSearch_1.clos x W')
    rwa [Int.toNat_of_nonneg b1] at this
  · cases h


/-! ### slices_Clone_int_int: function 46 -/
def slices_Clone_int_int.f (l0 : List Int) : Option (List Int) := if l0.length < 17592186044416 then some l0 else none
theorem slices_Clone_int_int.none_ {w : World} {n : Nat} {l0 : List Int} (h : Kd.C (Kd.int .i64) w none n l0) : n = 0 := by
  rcases Nat.eq_zero_or_pos n with e | e
  · exact e
  · obtain ⟨ad, h1, _⟩ := h.2.2 e
    cases h1
set_option maxRecDepth 100000 in
theorem slices_Clone_int_int.calls (A0 : Option Addr) (c0 : Nat) (l0 : List Int) (r : List Int) (w : World) (hr0 : Kd.C (Kd.int .i64) w A0 l0.length l0) (hc0 : l0.length ≤ c0) (h : slices_Clone_int_int.f l0 = some r) :
    Calls Try.prog 46 #[.slice A0 l0.length c0] w fun e w' => ∃ v0_ : Value, e = .returned (v0_) ∧ Kd.R (Kd.int .i64) 3 w' w.heap.size (fun _ => True) v0_ r ∧ Below w.heap.size w w' := by
  unfold slices_Clone_int_int.f at h
  split at h
  case isFalse => cases h
  rename_i hlim
  obtain rfl := Option.some.inj h
  have LM := Aside0.mk hlim
  have HR0 := Aside0.mk hr0
  have HC0 := Aside0.mk hc0
  have HB := Aside0.mk (Below.refl w.heap.size w)
  clear h hlim hr0 hc0
  cases A0 with
  | none =>
    have h0 := slices_Clone_int_int.none_ HR0.out
    obtain rfl := List.eq_nil_of_length_eq_zero h0
    clear h0
    have he : ∀ w : World, (binOp .eql 32 (.slice none 0 c0) (.slice none 0 0)).run Try.prog w = .ok (.bool true) w := fun _ => rfl
    go_enter Try.func46, Try.ntmps46
    go_wp2
    go_ret
    exact ⟨_, rfl, Kd.R_nil _ _ _ _ _, HB.out⟩
  | some ad =>
    have he : ∀ w : World, (binOp .eql 32 (.slice (some ad) l0.length c0) (.slice none 0 0)).run Try.prog w = .ok (.bool false) w := fun _ => rfl
    go_enter Try.func46, Try.ntmps46
    go_wp2_with (first | ((with_reducible refine gate_dst (N := 5) rfl ?_); refine Kd.R_lit (Kd.int .i64) _ 3 ?hg (N := 5) ?hd (xs := ([] : List Int)) (inner := []) (ok := fun _ => True) (okp := fun _ => True) ?hr ?hp (fun _ hk => hk) trivial (Below.refl _ _) (Nat.le_refl _) (by simp) ?_; (case hd => rfl); (case hg => rfl); (case hr => first | (go_simp; done) | (go_simp; rfl)); (case hp => exact (Reps.none _ _)); intro v1 w3 ho4 hb hg_ hnew_; clear hg_ hnew_; have n0_ := Aside0.mk (Kd.R_lower ho4 (below_size (by repeat (first | (with_reducible first | exact HB.out | apply below_alloc | apply pw_below_drewN | apply below_drew1) | exact HB.out)))); have n1_ := Aside0.mk (below_step (by repeat (first | (with_reducible first | exact HB.out | apply below_alloc | apply pw_below_drewN | apply below_drew1) | exact HB.out)) hb); clear HB; have HO1 := n0_; have HB := n1_; clear n0_ n1_; clear hb ho4) | ((with_reducible refine gate_builtin (b := .append) (xs := #[.tmp 5, .tmp 6]) rfl ?_); at_builtin; refine Kd.R_append_rows (Kd.int .i64) (w0 := w) w.heap.size rfl (.tmp 5) (.tmp 6) 32 3 (.int .i64 0) 8 rfl Try.underlying32 info3 rfl (by decide) (by omega) v1 [] l0 _ _ _ (fun _ => True) (fun _ => False) rfl rfl ?aO ?aR (fun _ _ h => h) (fun _ h => h.elim) ?aF ?aB ?aS ?aL ?_; (case aR => repeat (first | exact (Kd.C_below HR0.out HB.out) | (with_reducible refine Kd.C_alloc ?_ _) | (with_reducible refine Kd.C_drewN ?_ _) | (with_reducible refine Kd.C_drew ?_))); (case aB => exact (by repeat (first | (with_reducible first | exact HB.out | apply below_alloc | apply pw_below_drewN | apply below_drew1) | exact HB.out))); (case aF => exact (fun _ _ => trivial)); (case aO => exact (by (with_reducible repeat (first | apply Kd.R_alloc | apply Kd.R_drewN | apply Kd.R_drew)); exact HO1.out)); (case aS => exact (below_size (by repeat (first | (with_reducible first | exact HB.out | apply below_alloc | apply pw_below_drewN | apply below_drew1) | exact HB.out)))); (case aL => have := LM.out; simp only [List.length_nil]; omega); intro v2 w5 ho hb hg hat; rw [List.nil_append] at ho; have n0_ := Aside0.mk (hb); have n1_ := Aside0.mk (ho); clear HB; clear HO1; have HB := n0_; have HO2 := n1_; clear n0_ n1_; clear ho hb hg hat))
    go_ret
    exact ⟨_, rfl, by (with_reducible repeat (first | apply Kd.R_alloc | apply Kd.R_drewN | apply Kd.R_drew)); exact HO2.out, by repeat (first | (with_reducible first | exact HB.out | apply below_alloc | apply pw_below_drewN | apply below_drew1) | exact HB.out)⟩


/-! ### slices_Index_int_int: function 61 -/
def slices_Index_int_int.l0 : Nat → List Int → Int → Int → Int → Option (Int)
  | 0, _, _, _, _ => none
  | k + 1, x0, x1, x7, x8 => if x8 < x7 then (if 0 ≤ x8 then (if x8 < (x0.length : Int) then (if x1 = (rd x0 x8) then (some x8) else (slices_Index_int_int.l0 k x0 x1 x7 (wrap64 (x8 + 1)))) else (none)) else (none)) else (some (-1))
def slices_Index_int_int.f (k : Nat) (l0 : List Int) (a1 : Int) : Option (Int) := slices_Index_int_int.l0 k l0 a1 (l0.length : Int) 0
theorem slices_Index_int_int.mono_l : ∀ k, (∀ y0 y1 y2 y3, LeO (slices_Index_int_int.l0 k y0 y1 y2 y3) (slices_Index_int_int.l0 (k + 1) y0 y1 y2 y3))
  | 0 => fun _ _ _ _ r h => by simp [slices_Index_int_int.l0] at h
  | k + 1 => by
    have ih0 := slices_Index_int_int.mono_l k
    · intro y0 y1 y2 y3
      unfold slices_Index_int_int.l0
      repeat' first
      | (with_reducible exact ih0 _ _ _ _)
      | (with_reducible exact LeO.refl _)
      | (with_reducible exact LeO.none _)
      | (with_reducible refine LeO.ite ?_ ?_)
      | (with_reducible refine LeO.bind ?_ (fun _ => ?_))
      | exact ih0 _ _ _ _
      | exact LeO.none _
      | refine LeO.ite ?_ ?_
      | refine LeO.bind ?_ (fun _ => ?_)
theorem slices_Index_int_int.mono : ∀ a0 a1 k, LeO (slices_Index_int_int.f k a0 a1) (slices_Index_int_int.f (k + 1) a0 a1) := by
  intro a0 a1 k
  have ih0 := slices_Index_int_int.mono_l k
  unfold slices_Index_int_int.f
  repeat' first
      | (with_reducible exact ih0 _ _ _ _)
      | (with_reducible exact LeO.refl _)
      | (with_reducible exact LeO.none _)
      | (with_reducible refine LeO.ite ?_ ?_)
      | (with_reducible refine LeO.bind ?_ (fun _ => ?_))
      | exact ih0 _ _ _ _
      | exact LeO.none _
      | refine LeO.ite ?_ ?_
      | refine LeO.bind ?_ (fun _ => ?_)
set_option maxHeartbeats 8000000 in
set_option maxRecDepth 100000 in
theorem slices_Index_int_int.calls (k : Nat) (A0 : Option Addr) (c0 : Nat) (l0 : List Int) (a1 : Int) (r : Int) (w : World) (hr0 : Kd.C (Kd.int .i64) w A0 l0.length l0) (hc0 : l0.length ≤ c0) (h : slices_Index_int_int.f k l0 a1 = some r) :
    Calls Try.prog 61 #[.slice A0 l0.length c0, .int .i64 a1] w fun e w' => e = .returned (.int .i64 r) ∧ Drawn0 w w' := by
  have HR0 := Aside0.mk hr0
  have HC0 := Aside0.mk hc0
  clear hr0 hc0
  have H : (slices_Index_int_int.l0 k l0 a1 (l0.length : Int) 0) = some r := h
  clear h
  have H' := Aside0.mk H
  clear H
  go_enter Try.func61, Try.ntmps61
  go_wp2
  go_loopg [8] k (fun kq v8 w' => ∃ (x8_1 : Int), v8 = .int .i64 x8_1 ∧ Aside0 (slices_Index_int_int.l0 kq l0 a1 (l0.length : Int) x8_1 = some r) ∧ Aside0 (kq ≤ k) ∧ Drawn0 w w')
  case atStart => exact ⟨(0), (by first | rfl | (simp; done) | (simp [*]; done)), H', ⟨Nat.le_refl _⟩, by repeat (first | exact Drawn0.refl _ | apply Drawn0.step)⟩
  case round =>
    clear H'
    try clear p2
    obtain ⟨x8_1, rfl, HA, HK1, ⟨m1, rfl⟩⟩ := hrel
    cases gk with
    | zero => exact absurd HA.out (by simp [slices_Index_int_int.l0])
    | succ k1 =>
      have H := HA.out
      clear HA
      simp only [slices_Index_int_int.l0] at H
      by_cases c3 : x8_1 < (l0.length : Int)
      · rw [if_pos c3] at H
        have c3b0 : decide (x8_1 < (l0.length : Int)) = true := decide_eq_true c3
        clear c3
        by_cases c4 : 0 ≤ x8_1
        · rw [if_pos c4] at H
          have c4b0 : decide (0 ≤ x8_1) = true := decide_eq_true c4
          clear c4
          by_cases c5 : x8_1 < (l0.length : Int)
          · rw [if_pos c5] at H
            have c5b0 : decide (x8_1 < (l0.length : Int)) = true := decide_eq_true c5
            clear c5
            by_cases c6 : a1 = (rd l0 x8_1)
            · rw [if_pos c6] at H
              have c6b0 : (a1 == (rd l0 x8_1)) = true := beq_iff_eq.mpr c6
              have c6b1 : (a1 != (rd l0 x8_1)) = false := bne_eq_false_iff_eq.mpr c6
              clear c6
              obtain rfl := Option.some.inj H
              have p164 : 0 ≤ (x8_1 : Int) := of_decide_eq_true (by first | (with_reducible assumption) | assumption)
              have q164 : x8_1 < (l0.length : Int) := of_decide_eq_true (by first | (with_reducible assumption) | assumption)
              obtain ⟨ad164, e164, hx164_0⟩ := Kd.at_int HR0.out x8_1 p164 q164
              cases e164
              replace p164 := eq_true p164
              replace q164 := eq_true q164
              go_wp2
              go_ret
              exact ⟨by first | rfl | (simp; done) | (simp [*]; done), by repeat (first | exact Drawn0.refl _ | apply Drawn0.step)⟩
            · rw [if_neg c6] at H
              have c6b0 : (a1 == (rd l0 x8_1)) = false := beq_eq_false_iff_ne.mpr c6
              have c6b1 : (a1 != (rd l0 x8_1)) = true := bne_iff_ne.mpr c6
              have H' := Aside0.mk H
              clear H
              have p164 : 0 ≤ (x8_1 : Int) := of_decide_eq_true (by first | (with_reducible assumption) | assumption)
              have q164 : x8_1 < (l0.length : Int) := of_decide_eq_true (by first | (with_reducible assumption) | assumption)
              obtain ⟨ad164, e164, hx164_0⟩ := Kd.at_int HR0.out x8_1 p164 q164
              cases e164
              replace p164 := eq_true p164
              replace q164 := eq_true q164
              go_wp2
              go_roundg k1
              case measure => have := HK1.out; omega
              case rel => exact ⟨(wrap64 (x8_1 + 1)), (by first | rfl | (simp; done) | (simp [*]; done)), H', ⟨by have := HK1.out; omega⟩, by repeat (first | exact Drawn0.refl _ | apply Drawn0.step)⟩
          · rw [if_neg c5] at H
            exact absurd H (by simp)
        · rw [if_neg c4] at H
          exact absurd H (by simp)
      · rw [if_neg c3] at H
        have c3b0 : decide (x8_1 < (l0.length : Int)) = false := decide_eq_false c3
        clear c3
        obtain rfl := Option.some.inj H
        go_wp2
        go_ret
        exact ⟨by first | rfl | (simp; done) | (simp [*]; done), by repeat (first | exact Drawn0.refl _ | apply Drawn0.step)⟩

/-! ### slices_Contains_int_int: function 47 -/
def slices_Contains_int_int.f (k : Nat) (l0 : List Int) (a1 : Int) : Option (Bool) := (slices_Index_int_int.f k l0 a1).bind fun t165 => (some (decide (t165 ≥ 0)))
theorem slices_Contains_int_int.mono : ∀ a0 a1 k, LeO (slices_Contains_int_int.f k a0 a1) (slices_Contains_int_int.f (k + 1) a0 a1) := by
  intro a0 a1 k
  unfold slices_Contains_int_int.f
  repeat' first
      | (with_reducible exact slices_Index_int_int.mono _ _ _)
      | (with_reducible exact LeO.refl _)
      | (with_reducible exact LeO.none _)
      | (with_reducible refine LeO.ite ?_ ?_)
      | (with_reducible refine LeO.bind ?_ (fun _ => ?_))
      | exact slices_Index_int_int.mono _ _ _
      | exact LeO.none _
      | refine LeO.ite ?_ ?_
      | refine LeO.bind ?_ (fun _ => ?_)
set_option maxHeartbeats 8000000 in
set_option maxRecDepth 100000 in
theorem slices_Contains_int_int.calls (k : Nat) (A0 : Option Addr) (c0 : Nat) (l0 : List Int) (a1 : Int) (r : Bool) (w : World) (hr0 : Kd.C (Kd.int .i64) w A0 l0.length l0) (hc0 : l0.length ≤ c0) (h : slices_Contains_int_int.f k l0 a1 = some r) :
    Calls Try.prog 47 #[.slice A0 l0.length c0, .int .i64 a1] w fun e w' => e = .returned (.bool r) ∧ Drawn0 w w' := by
  have HR0 := Aside0.mk hr0
  have HC0 := Aside0.mk hc0
  clear hr0 hc0
  have H : ((slices_Index_int_int.f k l0 a1).bind fun t165 => (some (decide (t165 ≥ 0)))) = some r := h
  clear h
  replace H := Option.bind_eq_some_iff.mp H
  obtain ⟨t165, A30, H⟩ := H
  replace H : (some (decide (t165 ≥ 0))) = some r := H
  have A3 := Aside0.mk A30
  clear A30
  obtain rfl := Option.some.inj H
  go_enter Try.func47, Try.ntmps47
  go_wp2_with (first | ((with_reducible refine gate_callee (f := 61) rfl ?_); refine goesL_ (some 7) rfl rfl Try.func61 (by kernel_rfl) rfl #[.slice A0 l0.length c0, .int .i64 a1] rfl (by (try simp only [List.map_toArray, List.map_cons, List.map_nil]); first | done | rfl | (simp only [List.length_drop, List.length_take]; rfl) | (simp; done) | (refine congrArg Value.bool ?_; simp; done) | (refine congrArg (fun z_ => #[Value.bool z_]) ?_; simp; done)) ?_; (with_reducible refine (slices_Index_int_int.calls k _ _ l0 a1 t165 _ ?side1 ?side2 A3.out).mono ?_); (case side1 => repeat (first | exact HR0.out | (with_reducible refine Kd.C_alloc ?_ _) | (with_reducible refine Kd.C_drewN ?_ _) | (with_reducible refine Kd.C_drew ?_))); (case side2 => exact HC0.out); rintro e w' ⟨rfl, ⟨nd, rfl⟩⟩; refine ⟨_, rfl, ?_⟩))
  go_ret
  exact ⟨by first | rfl | (simp; done) | (simp [*]; done), by repeat (first | exact Drawn0.refl _ | apply Drawn0.step)⟩

/-! ### impl_HalvesSearch: function 19 -/
namespace Aux3
theorem w64 {x : Int} (h0 : -9223372036854775808 ≤ x) (h1 : x ≤ 9223372036854775807) : wrap64 x = x := by unfold wrap64; omega
theorem up64 {i n : Nat} (h : i < n) (hn : n ≤ 4611686018427387904) : wrap64 ((i : Int) + 1) = ((i + 1 : Nat) : Int) := by rw [w64 (by omega) (by omega)]; omega
theorem rd_lt {xs : List Int} {i : Nat} (h : i < xs.length) : rd xs (i : Int) = xs[i] := by unfold rd; simp [List.getD_eq_getElem?_getD, h]
/-- The place of the first x in a list, or -1. -/
def ix (l : List Int) (x : Int) : Int := if x ∈ l then (l.idxOf x : Int) else -1
theorem index_l0 (a : List Int) (x : Int) (hn : a.length ≤ 4611686018427387904) : ∀ (d i k : Nat), i + d = a.length → d < k → x ∉ a.take i → slices_Index_int_int.l0 k a x (a.length : Int) (i : Int) = some (ix a x)
  | 0, i, k, hi, hk, hx => by
    obtain ⟨k, rfl⟩ : ∃ q, k = q + 1 := ⟨k - 1, by omega⟩
    simp only [slices_Index_int_int.l0]
    rw [List.take_of_length_le (by omega)] at hx
    rw [if_neg (by omega)]
    unfold ix
    rw [if_neg hx]
  | d + 1, i, k, hi, hk, hx => by
    obtain ⟨k, rfl⟩ : ∃ q, k = q + 1 := ⟨k - 1, by omega⟩
    have ha : i < a.length := by omega
    simp only [slices_Index_int_int.l0]
    rw [if_pos (by omega), if_pos (by omega), if_pos (by omega), up64 ha hn, rd_lt ha]
    by_cases e : x = a[i]
    · rw [if_pos e]
      unfold ix
      have hm : x ∈ a := by rw [e]; exact List.getElem_mem ha
      rw [if_pos hm]
      have h2 : a.idxOf x = i := by
        have h3 : a = a.take i ++ a[i] :: a.drop (i + 1) := by rw [← List.drop_eq_getElem_cons ha, List.take_append_drop]
        rw [h3, List.idxOf_append, if_neg hx, ← e, List.idxOf_cons_self]
        simp; omega
      rw [h2]
    · rw [if_neg e]
      refine index_l0 a x hn d (i + 1) k (by omega) (by omega) ?_
      rw [List.take_succ_eq_append_getElem ha, List.mem_append, List.mem_singleton]
      exact fun h => h.elim hx e
theorem index_f (a : List Int) (x : Int) (hn : a.length ≤ 4611686018427387904) {k : Nat} (hk : a.length < k) : slices_Index_int_int.f k a x = some (ix a x) :=
  index_l0 a x hn a.length 0 k (by omega) hk (by simp)
theorem ix_mem (l : List Int) (x : Int) : ix l x ≥ 0 ↔ x ∈ l := by
  unfold ix
  split <;> simp_all
theorem contains_f (a : List Int) (x : Int) (hn : a.length ≤ 4611686018427387904) {k : Nat} (hk : a.length < k) : slices_Contains_int_int.f k a x = some (decide (x ∈ a)) := by
  unfold slices_Contains_int_int.f
  rw [index_f a x hn hk]
  simp [ix_mem]
end Aux3
def impl_HalvesSearch.l0 : Nat → Int → List Int → List (List Int) → Option (List (List Int))
  | 0, _, _, _ => none
  | k + 1, b, left, out => if 0 ≤ b then (if 1 < left.length then (if out.length ≤ 1000 then (if b ∈ left.take (left.length / 2) then impl_HalvesSearch.l0 k b (left.take (left.length / 2)) (out ++ [left.take (left.length / 2)]) else impl_HalvesSearch.l0 k b (left.drop (left.length / 2)) (out ++ [left.take (left.length / 2)])) else none) else some out) else some out
theorem impl_HalvesSearch.mono_l : ∀ k b left out, LeO (impl_HalvesSearch.l0 k b left out) (impl_HalvesSearch.l0 (k + 1) b left out)
  | 0, _, _, _ => fun r h => by simp [impl_HalvesSearch.l0] at h
  | k + 1, b, left, out => by
    unfold impl_HalvesSearch.l0
    exact LeO.ite (LeO.ite (LeO.ite (LeO.ite (impl_HalvesSearch.mono_l k _ _ _) (impl_HalvesSearch.mono_l k _ _ _)) (LeO.none _)) (LeO.refl _)) (LeO.refl _)
def impl_HalvesSearch.f (k : Nat) (a0 a1 : Int) : Option (List (List Int) × Bool) := (impl_areTested.f a0).bind fun t => if t = true then (impl_within.f a1 (-1) (wrap64 (a0 - 1))).bind fun u => if u = true then (impl_HalvesSearch_1.f a0).bind fun all => if all.length ≤ 1000 then (impl_HalvesSearch.l0 k a1 all [all]).bind fun o => some (o, true) else none else some ([], false) else some ([], false)
theorem impl_HalvesSearch.mono : ∀ a0 a1 k, LeO (impl_HalvesSearch.f k a0 a1) (impl_HalvesSearch.f (k + 1) a0 a1) := fun a0 a1 k => LeO.bind (LeO.refl _) (fun _ => LeO.ite (LeO.bind (LeO.refl _) (fun _ => LeO.ite (LeO.bind (LeO.refl _) (fun _ => LeO.ite (LeO.bind (impl_HalvesSearch.mono_l k _ _ _) (fun _ => LeO.refl _)) (LeO.refl _))) (LeO.refl _))) (LeO.refl _))
set_option maxHeartbeats 2000000 in
set_option maxRecDepth 100000 in
theorem impl_HalvesSearch.calls (k : Nat) (a0 a1 : Int) (r1 : List (List Int)) (r2 : Bool) (w : World) (h : impl_HalvesSearch.f k a0 a1 = some (r1, r2)) :
    Calls Try.prog 19 #[.int .i64 a0, .int .i64 a1] w fun e w' => ∃ v0_ : Value, e = .returned (.tuple #[v0_, .bool r2]) ∧ Kd.S (Kd.slice 3 (Kd.int .i64)) 32 w' w.heap.size (fun _ => True) v0_ r1 ∧ Below w.heap.size w w' := by
  unfold impl_HalvesSearch.f at h
  replace h := Option.bind_eq_some_iff.mp h
  obtain ⟨t, ht, h⟩ := h
  have HT := Aside0.mk ht
  clear ht
  cases t with
  | false =>
    rw [if_neg (by decide)] at h
    obtain ⟨rfl, rfl⟩ := Prod.mk.inj (Option.some.inj h)
    clear h
    go_enter Try.func19, Try.ntmps19
    go_wp2_with fail
    refine (impl_areTested.calls a0 false _ HT.out).mono ?_
    rintro e w1 ⟨rfl, ⟨nd, rfl⟩⟩
    go_wp2
    go_ret2
    exact ⟨_, rfl, Kd.S_nil _ _ _ _ _, by repeat (first | exact Below.refl _ _ | apply below_alloc | apply pw_below_drewN)⟩
  | true =>
    rw [if_pos rfl] at h
    replace h := Option.bind_eq_some_iff.mp h
    obtain ⟨t2, ht, h⟩ := h
    have HT2 := Aside0.mk ht
    clear ht
    cases t2 with
    | false =>
      rw [if_neg (by decide)] at h
      obtain ⟨rfl, rfl⟩ := Prod.mk.inj (Option.some.inj h)
      clear h
      go_enter Try.func19, Try.ntmps19
      go_wp2_with fail
      refine (impl_areTested.calls a0 true _ HT.out).mono ?_
      rintro e w1 ⟨rfl, ⟨nd, rfl⟩⟩
      go_wp2_with fail
      refine (impl_within.calls a1 (-1) (wrap64 (a0 - 1)) false _ HT2.out).mono ?_
      rintro e w1 ⟨rfl, ⟨nd2, rfl⟩⟩
      go_wp2
      go_ret2
      exact ⟨_, rfl, Kd.S_nil _ _ _ _ _, by repeat (first | exact Below.refl _ _ | apply below_alloc | apply pw_below_drewN)⟩
    | true =>
      rw [if_pos rfl] at h
      replace h := Option.bind_eq_some_iff.mp h
      obtain ⟨all, hall, h⟩ := h
      by_cases hg : all.length ≤ 1000
      case neg => rw [if_neg hg] at h; cases h
      rw [if_pos hg] at h
      replace h := Option.bind_eq_some_iff.mp h
      obtain ⟨o, ho, h⟩ := h
      obtain ⟨rfl, rfl⟩ := Prod.mk.inj (Option.some.inj h)
      have HALL := Aside0.mk hall
      have HG := Aside0.mk hg
      have HO := Aside0.mk ho
      clear h hall hg ho
      go_enter Try.func19, Try.ntmps19
      go_wp2_with fail
      refine (impl_areTested.calls a0 true _ HT.out).mono ?_
      rintro e w1 ⟨rfl, ⟨nd, rfl⟩⟩
      go_wp2_with fail
      refine (impl_within.calls a1 (-1) (wrap64 (a0 - 1)) true _ HT2.out).mono ?_
      rintro e w1 ⟨rfl, ⟨nd2, rfl⟩⟩
      go_wp2_with fail
      refine (impl_HalvesSearch_1.calls a0 all _ HALL.out).mono ?_
      rintro e w2 ⟨v2, rfl, hv, hb⟩
      have B2 := Aside0.mk (show Below w.heap.size w w2 from below_step (by repeat (first | exact Below.refl _ _ | apply pw_below_drewN)) hb)
      obtain ⟨A2, c2, rfl, hc2, hC2⟩ := Kd.R_reads hv
      have CL := Aside0.mk hC2
      have CC := Aside0.mk hc2
      clear hv hb hc2 hC2 HT HT2 HALL
      have hcl : slices_Clone_int_int.f all = some all := by unfold slices_Clone_int_int.f; rw [if_pos (by have := HG.out; omega)]
      have HCL := Aside0.mk hcl
      clear hcl
      go_wp2_with fail
      refine (slices_Clone_int_int.calls A2 c2 all all _ CL.out CC.out HCL.out).mono ?_
      rintro e w3 ⟨v3, rfl, hv, hb⟩
      obtain ⟨A3, c3, rfl⟩ := Kd.R_slice hv
      have R3 := Aside0.mk hv
      have B3 := Aside0.mk hb
      clear hv hb
      go_wp2_with ((with_reducible refine gate_dst (N := 23) rfl ?_); refine Kd.R_lit (Kd.tag (fun _ => 0) (Kd.slice 3 (Kd.int .i64))) (w0 := w2) w2.heap.size 32 ?hg (N := 23) ?hd (xs := [(all, 0)]) (inner := [.slice A3 all.length c3]) (ok := fun _ => True) (okp := fun _ => True) ?hr ?hp (fun _ hk => hk) trivial B3.out B3.out.size (by simp) ?_; (case hd => rfl); (case hg => rfl); (case hr => first | (go_simp; done) | (go_simp; rfl)); (case hp => exact Reps.one ⟨_, rfl, Kd.R_mono R3.out (fun k hk => ⟨hk, rfl⟩)⟩ (Reps.none _ _)); intro v4 w4 ho4 hb4 hg_ hnew_; clear hg_ hnew_; have O4 := Aside0.mk (show Kd.S (Kd.slice 3 (Kd.int .i64)) 32 w4 w2.heap.size (fun _ => True) v4 [all] from ⟨_, ho4⟩); have B4 := Aside0.mk hb4; clear ho4 hb4)
      go_loopg [6, 7] k (fun gg v6 v7 wr => ∃ (left : List Int) (out : List (List Int)) (A : Option Addr) (c : Nat), v6 = .slice A left.length c ∧ Aside0 (impl_HalvesSearch.l0 gg a1 left out = some o) ∧ Aside0 (left.length ≤ c) ∧ Aside0 (left.length ≤ 1000) ∧ Aside0 (Kd.C (Kd.int .i64) w2 A left.length left) ∧ Aside0 (Kd.S (Kd.slice 3 (Kd.int .i64)) 32 wr w2.heap.size (fun _ => True) v7 out) ∧ Aside0 (Below w2.heap.size w2 wr))
      case atStart => exact ⟨all, [all], A2, c2, rfl, HO, CC, HG, CL, O4, B4⟩
      case round =>
        clear HO CC HG CL O4 B4 R3 B3 HCL
        obtain ⟨left, out, A, c, rfl, HA, HC, HL, CL, OS, BW⟩ := hrel
        cases gk with
        | zero => exact absurd HA.out (by simp [impl_HalvesSearch.l0])
        | succ k1 =>
          have H := HA.out
          clear HA
          simp only [impl_HalvesSearch.l0] at H
          by_cases b0 : 0 ≤ a1
          · rw [if_pos b0] at H
            have b0b := decide_eq_true b0
            clear b0
            by_cases b1 : 1 < left.length
            · rw [if_pos b1] at H
              have b1b : decide (1 < left.length) = true := decide_eq_true b1
              have b1c : decide (1 < (left.length : Int)) = true := decide_eq_true (by omega)
              by_cases b2 : out.length ≤ 1000
              case neg => rw [if_neg b2] at H; cases H
              rw [if_pos b2] at H
              have H' := Aside0.mk H
              have HB2 := Aside0.mk b2
              have HB1 := Aside0.mk b1
              have m1 : wrap64 ((left.length : Int) / 2) = ((left.length / 2 : Nat) : Int) := by have := HL.out; unfold wrap64; omega
              have m2 : ((left.length : Int) / 2) = ((left.length / 2 : Nat) : Int) := by omega
              have m3 : left.length / 2 ≤ c := by have := HC.out; omega
              have m4 : left.length / 2 ≤ left.length := by omega
              have M4 := Aside0.mk m4
              have CH := Aside0.mk (Kd.C_take CL.out m4)
              have hlen : (left.take (left.length / 2)).length = left.length / 2 := by rw [List.length_take]; omega
              have HLEN := Aside0.mk hlen
              clear H b1 b2 m4 hlen
              obtain ⟨m, em⟩ : ∃ m, m = left.length / 2 := ⟨_, rfl⟩
              rw [← em] at m1 m2 m3 H' CH HLEN M4
              rw [m2] at m1
              have m5 : decide (m ≤ c) = true := decide_eq_true m3
              have m6 : decide ((m : Int) ≤ (c : Int)) = true := decide_eq_true (by omega)
              have m7 : decide (0 ≤ (m : Int)) = true := decide_eq_true (by omega)
              have m8 : ((m : Int) ≤ (c : Int)) = True := eq_true (by omega)
              have M3 := Aside0.mk m3
              replace m3 := eq_true m3
              have EM := Aside0.mk em
              clear em
              go_wp2_with fail
              obtain ⟨half, eh⟩ : ∃ half, half = left.take m := ⟨_, rfl⟩
              rw [← eh] at H' CH HLEN
              have EH := Aside0.mk eh
              clear eh
              have hlen := HLEN.out
              clear HLEN
              subst hlen
              refine (slices_Clone_int_int.calls A c half half wr (Kd.C_below CH.out BW.out) M3.out (by unfold slices_Clone_int_int.f; rw [if_pos (by have := M4.out; have := HL.out; omega)])).mono ?_
              rintro e w5 ⟨v5, rfl, hv, hb⟩
              have R5 := Aside0.mk (Kd.R_lower (Kd.R_mono (ok' := fun k => wr.heap.size ≤ k) (Kd.R_bound hv) (fun k hk => hk.2.1)) BW.out.size)
              have O5 := Aside0.mk (Kd.S_old OS.out hb)
              have BW5 := Aside0.mk (below_step BW.out hb)
              have hown : ∀ k, u7.ownBlock = some k → True ∧ k < wr.heap.size := (Kd.S_R O5.out).1
              have HOWN := Aside0.mk hown
              clear hv hb OS BW hown
              obtain ⟨A5, c5, rfl⟩ := Kd.R_slice R5.out
              go_wp2_with ((with_reducible refine gate_builtin (b := .append) (xs := #[.tmp 36, .tmp 39]) rfl ?_); at_builtin; refine Kd.S_append (Kd.slice 3 (Kd.int .i64)) (w0 := w2) w2.heap.size rfl (.tmp 36) (.tmp 39) 22 32 (.slice none 0 0) 24 rfl Try.underlying22 info32 rfl (by decide) (by omega) u7 out half [.slice A5 half.length c5] (fun _ => True) (fun k => wr.heap.size ≤ k) rfl rfl ?aP ?aK ?aF ?aO ?aB ?aS ?aL ?_; (case aP => exact Kd.M_row R5.out); (case aK => exact (fun k hk => ⟨trivial, fun e => Nat.lt_irrefl _ (Nat.lt_of_lt_of_le (HOWN.out k e.symm).2 hk)⟩)); (case aF => exact (fun _ _ => trivial)); (case aO => exact Kd.S_mono O5.out (fun k hk => ⟨trivial, Nat.not_le.2 hk.2⟩)); (case aB => exact BW5.out); (case aS => exact BW5.out.size); (case aL => have := HB2.out; omega); intro v6 w6 ho6 hb6 hg6 hat6; have O6 := Aside0.mk ho6; have BW6 := Aside0.mk hb6; clear ho6 hb6 hg6 hat6 O5 BW5 R5 HOWN)
              by_cases hin : a1 ∈ half
              · have HIN := Aside0.mk hin
                have H2 := Aside0.mk (show impl_HalvesSearch.l0 k1 a1 half (out ++ [half]) = some o by have h := H'.out; rwa [if_pos hin] at h)
                clear H' hin
                refine (slices_Contains_int_int.calls 2000 A c half a1 true _ (Kd.C_below CH.out (by repeat (first | exact BW6.out | apply pw_below_drewN | apply below_drew1))) M3.out (by rw [Aux3.contains_f half a1 (by have := M4.out; have := HL.out; omega) (by have := M4.out; have := HL.out; omega), decide_eq_true HIN.out])).mono ?_
                rintro e w7 ⟨rfl, ⟨nd3, rfl⟩⟩
                have O7 := Aside0.mk (Kd.S_below O6.out (pw_below_drewN (Below.refl _ _) nd3))
                have BW7 := Aside0.mk (pw_below_drewN BW6.out nd3)
                clear O6 BW6
                generalize w6.drewN nd3 = w8 at O7 BW7 ⊢
                go_wp2
                go_roundg k1
                case measure => omega
                case rel => exact ⟨half, out ++ [half], A, c, rfl, H2, M3, ⟨Nat.le_trans M4.out HL.out⟩, CH, O7, BW7⟩
              · have HIN := Aside0.mk hin
                have H2 := Aside0.mk (show impl_HalvesSearch.l0 k1 a1 (left.drop half.length) (out ++ [half]) = some o by have h := H'.out; rwa [if_neg hin] at h)
                clear H' hin
                refine (slices_Contains_int_int.calls 2000 A c half a1 false _ (Kd.C_below CH.out (by repeat (first | exact BW6.out | apply pw_below_drewN | apply below_drew1))) M3.out (by rw [Aux3.contains_f half a1 (by have := M4.out; have := HL.out; omega) (by have := M4.out; have := HL.out; omega), decide_eq_false HIN.out])).mono ?_
                rintro e w7 ⟨rfl, ⟨nd3, rfl⟩⟩
                have O7 := Aside0.mk (Kd.S_below O6.out (pw_below_drewN (Below.refl _ _) nd3))
                have BW7 := Aside0.mk (pw_below_drewN BW6.out nd3)
                have CD := Aside0.mk (Kd.C_drop CL.out M4.out HC.out)
                have DL : Aside0 ((left.drop half.length).length = left.length - half.length) := ⟨by rw [List.length_drop]⟩
                have n1 : half.length ≤ left.length := M4.out
                have n2 : decide (half.length ≤ left.length) = true := decide_eq_true n1
                have n3 : decide ((half.length : Int) ≤ (left.length : Int)) = true := decide_eq_true (by omega)
                have n4 : ((half.length : Int) ≤ (left.length : Int)) = True := eq_true (by omega)
                replace n1 := eq_true n1
                have n5 : ¬ c = half.length := by have := HC.out; have := HB1.out; have := EM.out; omega
                have cd : Kd.C (Kd.int .i64) w2 (A.map (·.add half.length)) (left.drop half.length).length (left.drop half.length) := by
                  have h := CD.out
                  rw [if_neg n5, show (Kd.int .i64).sz = 1 from rfl, Nat.mul_one] at h
                  exact h
                have CE := Aside0.mk cd
                have HCC := Aside0.mk (show (left.drop half.length).length ≤ c - half.length by rw [DL.out]; have := HC.out; omega)
                have HLL := Aside0.mk (show (left.drop half.length).length ≤ 1000 by rw [DL.out]; have := HL.out; omega)
                replace n5 := eq_false n5
                clear O6 BW6 cd CD
                generalize w6.drewN nd3 = w8 at O7 BW7 ⊢
                go_wp2
                go_roundg k1
                case measure => omega
                case rel =>
                  exact ⟨left.drop half.length, out ++ [half], A.map (·.add half.length), c - half.length, by rw [DL.out], H2, HCC, HLL, CE, O7, BW7⟩
            · rw [if_neg b1] at H
              have b1b : decide (1 < left.length) = false := decide_eq_false b1
              have b1c : decide (1 < (left.length : Int)) = false := decide_eq_false (by omega)
              obtain rfl := Option.some.inj H
              clear b1 H
              go_wp2
              go_ret2
              exact ⟨_, rfl, Kd.S_mono (Kd.S_lower OS.out B2.out.size) (fun _ _ => trivial), B2.out.trans (BW.out.mono B2.out.size)⟩
          · rw [if_neg b0] at H
            have b0b : decide (0 ≤ a1) = false := decide_eq_false b0
            obtain rfl := Option.some.inj H
            clear b0 H
            go_wp2
            go_ret2
            exact ⟨_, rfl, Kd.S_mono (Kd.S_lower OS.out B2.out.size) (fun _ _ => trivial), B2.out.trans (BW.out.mono B2.out.size)⟩


/-! ### laws_FnExactHalvesSearch: function 5 -/
namespace Aux
theorem w64 {x : Int} (h0 : -9223372036854775808 ≤ x) (h1 : x ≤ 9223372036854775807) : wrap64 x = x := by unfold wrap64; omega
theorem up64 {i n : Nat} (h : i < n) (hn : n ≤ 4611686018427387904) : wrap64 ((i : Int) + 1) = ((i + 1 : Nat) : Int) := by rw [w64 (by omega) (by omega)]; omega
theorem rd_lt {xs : List Int} {i : Nat} (h : i < xs.length) : rd xs (i : Int) = xs[i] := by unfold rd; simp [List.getD_eq_getElem?_getD, h]

theorem eqIntS_l0 (a b : List Int) (hl : a.length = b.length) (hn : a.length ≤ 4611686018427387904) : ∀ (d i k : Nat), i + d = a.length → d < k → laws_eqIntS.l0 k a b (i : Int) = some (decide (a.drop i = b.drop i))
  | 0, i, k, hi, hk => by
    obtain ⟨k, rfl⟩ : ∃ q, k = q + 1 := ⟨k - 1, by omega⟩
    simp only [laws_eqIntS.l0]
    rw [if_neg (by omega), List.drop_eq_nil_of_le (by omega), List.drop_eq_nil_of_le (by omega)]
    simp
  | d + 1, i, k, hi, hk => by
    obtain ⟨k, rfl⟩ : ∃ q, k = q + 1 := ⟨k - 1, by omega⟩
    have ih := eqIntS_l0 a b hl hn d (i + 1) k (by omega) (by omega)
    have ha : i < a.length := by omega
    have hb : i < b.length := by omega
    simp only [laws_eqIntS.l0]
    rw [if_pos (by omega), if_pos (by omega), if_pos (by omega), up64 ha hn, ih, rd_lt ha, rd_lt hb, List.drop_eq_getElem_cons ha, List.drop_eq_getElem_cons hb]
    by_cases e : a[i] = b[i]
    · rw [if_pos e, e]; simp only [List.cons.injEq, true_and]
    · rw [if_neg e]; simp only [List.cons.injEq, e, false_and, decide_false]
theorem eqIntS_f (a b : List Int) (hn : a.length ≤ 4611686018427387904) {k : Nat} (hk : a.length < k) : laws_eqIntS.f k a b = some (decide (a = b)) := by
  unfold laws_eqIntS.f
  by_cases h : a.length = b.length
  · rw [if_pos (by omega)]
    exact eqIntS_l0 a b h hn a.length 0 k (by omega) hk
  · rw [if_neg (by omega), decide_eq_false (fun e => h (by rw [e]))]

/-- The numbers a, a + 1, .. -/
def mk (a : Int) (n : Nat) : List Int := (List.range n).map (fun (j : Nat) => a + (j : Int))
theorem mk_len (a : Int) (n : Nat) : (mk a n).length = n := by simp [mk]
theorem mk_succ (a : Int) (n : Nat) : mk a (n + 1) = mk a n ++ [a + (n : Int)] := by simp [mk, List.range_succ]
theorem mk_rd (a : Int) {n i : Nat} (h : i < n) : rd (mk a n) (i : Int) = a + (i : Int) := by
  rw [rd_lt (by rw [mk_len]; exact h)]
  simp [mk]
theorem markIntS_l0 (l : List Int) (a : Int) (h0 : 0 ≤ a) (h1 : a ≤ 1000000000000) (hn : l.length ≤ 1000000000000) : ∀ (d i k : Nat), i + d = l.length → d < k → laws_markIntS.l0 k (mk a i ++ l.drop i) (a + (i : Int)) (i : Int) = some (a + (l.length : Int), mk a l.length)
  | 0, i, k, hi, hk => by
    obtain ⟨k, rfl⟩ : ∃ q, k = q + 1 := ⟨k - 1, by omega⟩
    have e : i = l.length := by omega
    subst e
    simp only [laws_markIntS.l0]
    rw [if_neg (by rw [List.length_append, mk_len, List.length_drop]; omega), List.drop_eq_nil_of_le (by omega), List.append_nil]
  | d + 1, i, k, hi, hk => by
    obtain ⟨k, rfl⟩ : ∃ q, k = q + 1 := ⟨k - 1, by omega⟩
    have ha : i < l.length := by omega
    have ih := markIntS_l0 l a h0 h1 hn d (i + 1) k (by omega) (by omega)
    simp only [laws_markIntS.l0]
    rw [if_pos (by rw [List.length_append, mk_len, List.length_drop]; omega), if_pos (by omega), up64 ha (by omega), w64 (x := a + (i : Int) + 1) (by omega) (by omega)]
    have he : (mk a i ++ l.drop i).set ((i : Nat) : Int).toNat (a + (i : Int)) = mk a (i + 1) ++ l.drop (i + 1) := by
      rw [List.set_append_right _ _ (by rw [mk_len]; omega), mk_len, mk_succ, List.drop_eq_getElem_cons ha]
      have e : ((i : Nat) : Int).toNat - i = 0 := by omega
      rw [e, List.set_cons_zero]
      simp only [List.append_assoc, List.singleton_append]
    rw [he, show a + (i : Int) + 1 = a + ((i + 1 : Nat) : Int) by omega]
    exact ih
theorem markIntS_f (l : List Int) (a : Int) (h0 : 0 ≤ a) (h1 : a ≤ 1000000000000) (hn : l.length ≤ 1000000000000) {k : Nat} (hk : l.length < k) : laws_markIntS.f k l a = some (a + (l.length : Int), mk a l.length) := by
  have h := markIntS_l0 l a h0 h1 hn l.length 0 k (by omega) hk
  unfold laws_markIntS.f
  simpa [mk] using h
theorem heldIntS_l0 (n : Nat) (a : Int) (h0 : 0 ≤ a) (h1 : a ≤ 1000000000000) (hn : n ≤ 1000000000000) : ∀ (d i k : Nat), i + d = n → d < k → laws_heldIntS.l0 k (mk a n) (a + (i : Int)) (i : Int) = some (a + (n : Int))
  | 0, i, k, hi, hk => by
    obtain ⟨k, rfl⟩ : ∃ q, k = q + 1 := ⟨k - 1, by omega⟩
    have e : i = n := by omega
    subst e
    simp only [laws_heldIntS.l0]
    rw [if_neg (by rw [mk_len]; omega)]
  | d + 1, i, k, hi, hk => by
    obtain ⟨k, rfl⟩ : ∃ q, k = q + 1 := ⟨k - 1, by omega⟩
    have ha : i < n := by omega
    have ih := heldIntS_l0 n a h0 h1 hn d (i + 1) k (by omega) (by omega)
    simp only [laws_heldIntS.l0]
    rw [if_pos (by rw [mk_len]; omega), if_pos (by omega), mk_rd a ha, if_pos rfl, up64 ha (by omega), w64 (x := a + (i : Int) + 1) (by omega) (by omega), show a + (i : Int) + 1 = a + ((i + 1 : Nat) : Int) by omega]
    exact ih
theorem heldIntS_f (n : Nat) (a : Int) (h0 : 0 ≤ a) (h1 : a ≤ 1000000000000) (hn : n ≤ 1000000000000) {k : Nat} (hk : n < k) : laws_heldIntS.f k (mk a n) a = some (a + (n : Int)) := by
  have h := heldIntS_l0 n a h0 h1 hn n 0 k (by omega) hk
  unfold laws_heldIntS.f
  simpa using h

/-- The length of all rows together. -/
def tot (l : List (List Int)) : Nat := (l.map List.length).sum
theorem tot_cons (x : List Int) (l : List (List Int)) : tot (x :: l) = x.length + tot l := by simp [tot]
theorem tot_append (a b : List (List Int)) : tot (a ++ b) = tot a + tot b := by simp [tot]
theorem tot_drop (l : List (List Int)) (i : Nat) (h : i < l.length) : tot (l.drop i) = (l[i]).length + tot (l.drop (i + 1)) := by
  rw [List.drop_eq_getElem_cons h, tot_cons]
theorem tot_drop_le (l : List (List Int)) : ∀ i, tot (l.drop i) ≤ tot l := by
  induction l with
  | nil => intro i; simp [tot]
  | cons x l ih =>
    intro i
    cases i with
    | zero => simp
    | succ i => rw [List.drop_succ_cons, tot_cons]; have := ih i; omega
theorem eqIntS_ev (l : List Int) (h : l.length ≤ 1000000000) : ∃ k, laws_eqIntS.f k l l = some true := ⟨l.length + 1, by rw [eqIntS_f l l (by omega) (by omega)]; simp⟩
theorem markIntS_ev (l : List Int) (a : Int) (h0 : 0 ≤ a) (h1 : a ≤ 1000000000) (h : l.length ≤ 1000000000) : ∃ k m L, a ≤ m ∧ m = a + (l.length : Int) ∧ L.length = l.length ∧ laws_markIntS.f k l a = some (m, L) ∧ laws_heldIntS.f k L a = some m :=
  ⟨l.length + 1, a + (l.length : Int), mk a l.length, by omega, rfl, mk_len _ _, markIntS_f l a h0 (by omega) (by omega) (by omega), heldIntS_f l.length a h0 (by omega) (by omega) (by omega)⟩

theorem eqIntSS_l0 (a : List (List Int)) (hn : a.length ≤ 1000000000) (ht : tot a ≤ 1000000000) : ∀ (d i k : Nat), i + d = a.length → d + 1000000001 < k → laws_eqIntSS.l0 k a a (i : Int) = some true
  | 0, i, k, hi, hk => by
    obtain ⟨k, rfl⟩ : ∃ q, k = q + 1 := ⟨k - 1, by omega⟩
    simp only [laws_eqIntSS.l0]
    rw [if_neg (by omega)]
  | d + 1, i, k, hi, hk => by
    obtain ⟨k, rfl⟩ : ∃ q, k = q + 1 := ⟨k - 1, by omega⟩
    have ih := eqIntSS_l0 a hn ht d (i + 1) k (by omega) (by omega)
    have ha : i < a.length := by omega
    have h1 := tot_drop a i ha
    have h2 := tot_drop_le a i
    have e : rd_L1 a (i : Int) = a[i] := by unfold rd_L1; simp [List.getD_eq_getElem?_getD, ha]
    simp only [laws_eqIntSS.l0]
    rw [if_pos (by omega), if_pos (by omega), if_pos (by omega), e, eqIntS_f _ _ (by omega) (by omega), up64 ha (by omega)]
    simpa using ih
theorem eqIntSS_ev (l : List (List Int)) (hn : l.length ≤ 1000000000) (ht : tot l ≤ 1000000000) : ∃ k, laws_eqIntSS.f k l l = some true := by
  refine ⟨3000000000, ?_⟩
  unfold laws_eqIntSS.f
  rw [if_pos rfl]
  exact eqIntSS_l0 l hn ht l.length 0 _ (by omega) (by omega)
/-- Rows that are numbered one behind the other. -/
def mkS : List (List Int) → Int → List (List Int)
  | [], _ => []
  | x :: l, a => mk a x.length :: mkS l (a + (x.length : Int))
theorem mkS_len (l : List (List Int)) : ∀ a, (mkS l a).length = l.length := by
  induction l with
  | nil => intro a; rfl
  | cons x l ih => intro a; simp [mkS, ih]
theorem mkS_tot (l : List (List Int)) : ∀ a, tot (mkS l a) = tot l := by
  induction l with
  | nil => intro a; rfl
  | cons x l ih => intro a; simp [mkS, ih, tot_cons, mk_len]
theorem markSS_l0 : ∀ (l pre : List (List Int)) (a : Int) (k : Nat), 0 ≤ a → a + (tot l : Int) ≤ 100000000000 → pre.length + l.length ≤ 1000000000 → tot l ≤ 1000000000 → l.length + 1000000001 < k → laws_markIntSS.l0 k (pre ++ l) a (pre.length : Int) = some (a + (tot l : Int), pre ++ mkS l a)
  | [], pre, a, k, h0, h1, h2, h3, hk => by
    obtain ⟨k, rfl⟩ : ∃ q, k = q + 1 := ⟨k - 1, by omega⟩
    simp only [laws_markIntSS.l0]
    rw [if_neg (by simp)]
    simp [tot, mkS]
  | x :: l, pre, a, k, h0, h1, h2, h3, hk => by
    obtain ⟨k, rfl⟩ : ∃ q, k = q + 1 := ⟨k - 1, by omega⟩
    rw [tot_cons] at h1 h3
    rw [List.length_cons] at h2 hk
    have ih := markSS_l0 l (pre ++ [mk a x.length]) (a + (x.length : Int)) k (by omega) (by omega) (by simp; omega) (by omega) (by omega)
    have e : (pre ++ x :: l).getD ((pre.length : Int)).toNat [] = x := by simp [List.getD_eq_getElem?_getD]
    have e2 : (pre ++ x :: l).set ((pre.length : Int)).toNat (mk a x.length) = (pre ++ [mk a x.length]) ++ l := by simp [List.set_append_right]
    simp only [laws_markIntSS.l0]
    rw [if_pos (by simp; omega), if_pos (by omega), e, markIntS_f x a h0 (by omega) (by omega) (by omega), Option.bind_some, e2, up64 (n := pre.length + 1) (by omega) (by omega)]
    rw [show (((pre.length + 1 : Nat)) : Int) = ((pre ++ [mk a x.length]).length : Int) by simp, ih]
    simp [tot_cons, mkS]
    omega
theorem heldSS_l0 (L : List (List Int)) : ∀ (l pre : List (List Int)) (a : Int) (k : Nat), L = pre ++ mkS l a → 0 ≤ a → a + (tot l : Int) ≤ 100000000000 → pre.length + l.length ≤ 1000000000 → tot l ≤ 1000000000 → l.length + 1000000001 < k → laws_heldIntSS.l0 k L a (pre.length : Int) = some (a + (tot l : Int))
  | [], pre, a, k, hL, h0, h1, h2, h3, hk => by
    obtain ⟨k, rfl⟩ : ∃ q, k = q + 1 := ⟨k - 1, by omega⟩
    simp only [laws_heldIntSS.l0]
    rw [if_neg (by rw [hL]; simp [mkS])]
    simp [tot]
  | x :: l, pre, a, k, hL, h0, h1, h2, h3, hk => by
    obtain ⟨k, rfl⟩ : ∃ q, k = q + 1 := ⟨k - 1, by omega⟩
    rw [tot_cons] at h1 h3
    rw [List.length_cons] at h2 hk
    have ih := heldSS_l0 L l (pre ++ [mk a x.length]) (a + (x.length : Int)) k (by rw [hL]; simp [mkS]) (by omega) (by omega) (by simp; omega) (by omega) (by omega)
    have e : rd_L1 L (pre.length : Int) = mk a x.length := by rw [hL]; unfold rd_L1; simp [mkS, List.getD_eq_getElem?_getD]
    have hlen : L.length = pre.length + (l.length + 1) := by rw [hL]; simp [mkS, mkS_len]
    simp only [laws_heldIntSS.l0]
    rw [if_pos (by omega), if_pos (by omega), e, heldIntS_f x.length a h0 (by omega) (by omega) (by omega), Option.bind_some, if_neg (by omega), up64 (n := pre.length + 1) (by omega) (by omega)]
    rw [show (((pre.length + 1 : Nat)) : Int) = ((pre ++ [mk a x.length]).length : Int) by simp, ih]
    simp [tot_cons]
    omega
theorem markIntSS_ev (l : List (List Int)) (a : Int) (h0 : 0 ≤ a) (h1 : a ≤ 1000000000) (hn : l.length ≤ 1000000000) (ht : tot l ≤ 1000000000) : ∃ k m L, a ≤ m ∧ m = a + (tot l : Int) ∧ L.length = l.length ∧ laws_markIntSS.f k l a = some (m, L) ∧ laws_heldIntSS.f k L a = some m :=
  ⟨3000000000, a + (tot l : Int), mkS l a, by omega, rfl, mkS_len _ _, markSS_l0 l [] a _ h0 (by omega) (by simpa using hn) ht (by omega), heldSS_l0 (mkS l a) l [] a _ rfl h0 (by omega) (by simpa using hn) ht (by omega)⟩

section
open Go.Proofs.YthkoignldhocgabW.Rng
structure ON {α : Type} (d : Kd α) (e : Nat) (W : World) (b lo hi : Nat) (v : Value) (xs : List α) : Prop where
  row : Kd.N d e W b (Bt lo hi) v xs
  top : hi ≤ W.heap.size
section
variable {α : Type} {d : Kd α} {e : Nat} {w W W' : World} {b lo hi : Nat} {ok S : Nat → Prop} {v : Value} {xs xs' : List α}
theorem ON.made (h : Kd.N d e W' W.heap.size ok v xs) (hok : ∀ k, ok k → W.heap.size ≤ k) (hb : b ≤ W.heap.size) : ON d e W' b W.heap.size W'.heap.size v xs :=
  ⟨Kd.N_lower (Kd.N_mono (Kd.N_bound h) (fun _ hk => ⟨hok _ hk.1, hk.2⟩)) hb, Nat.le_refl _⟩
theorem ON.below (h : ON d e W b lo hi v xs) (hb : Below W.heap.size W W') : ON d e W' b lo hi v xs := ⟨Kd.N_below h.row hb, Nat.le_trans h.top hb.size⟩
theorem ON.kept (h : ON d e W b lo hi v xs) (hk : Kept W W' S) (hs : ∀ k, Bt lo hi k → ¬ S k) : ON d e W' b lo hi v xs := ⟨Kd.N_kept h.row hk hs, Nat.le_trans h.top hk.1⟩
end
end
end Aux
def laws_FnExactHalvesSearch.f (k : Nat) (a0 : Int) (a1 : Int) : Option Bool := (spec_HalvesSearch.f k a0 a1).bind fun s => (impl_HalvesSearch.f k a0 a1).bind fun g => if g = s ∧ s.1.length ≤ 1000000000 ∧ Aux.tot s.1 ≤ 1000000000 then some true else none
open Go.Proofs.YthkoignldhocgabW.Rng in
set_option maxHeartbeats 4000000 in
set_option maxRecDepth 100000 in
theorem laws_FnExactHalvesSearch.calls (k : Nat) (a0 : Int) (a1 : Int) (r : Bool) (w : World)  (h : laws_FnExactHalvesSearch.f k a0 a1 = some r) :
    Calls Try.prog 5 #[.int .i64 a0, .int .i64 a1] w fun e w' => e = .returned (.bool r) ∧ Below w.heap.size w w' := by
  have HB := Aside0.mk (Below.refl w.heap.size w)
  unfold laws_FnExactHalvesSearch.f at h
  replace h := Option.bind_eq_some_iff.mp h
  obtain ⟨s, hs, h⟩ := h
  replace h := Option.bind_eq_some_iff.mp h
  obtain ⟨g, hg, h⟩ := h
  by_cases hgs_ : g = s ∧ s.1.length ≤ 1000000000 ∧ Aux.tot s.1 ≤ 1000000000
  case neg => rw [if_neg hgs_] at h; cases h
  rw [if_pos hgs_] at h
  obtain ⟨hgs, hbd⟩ := hgs_
  subst hgs
  obtain rfl := Option.some.inj h
  clear h
  obtain ⟨R0, R1⟩ := g
  dsimp only at hbd
  have SP := Aside0.mk hs
  have IM := Aside0.mk hg
  clear hs hg
  have eb1 : (R1 != R1) = false := by simp
  obtain ⟨keR, he_⟩ := Aux.eqIntSS_ev R0 hbd.1 hbd.2
  have EQR := Aside0.mk he_
  obtain ⟨kmR, mR, LR, mpR, meR, ml_, mk_, mh_⟩ := Aux.markIntSS_ev R0 1 (by omega) (by omega) hbd.1 hbd.2
  have MLR := Aside0.mk ml_
  have MKR := Aside0.mk mk_
  have MHR := Aside0.mk mh_
  have dm_ : decide (mR < 0) = false := decide_eq_false (by omega)
  have em_ : (mR != mR) = false := by simp
  clear ml_ mk_ mh_ he_
  clear meR mpR hbd
  go_enter Try.func5, Try.ntmps5
  go_wp2_with fail
  refine (spec_HalvesSearch.calls k a0 a1 R0 R1 _  SP.out).mono ?_
  rintro e_ w1 ⟨vrw, rfl, hv_, hb_⟩
  obtain ⟨Arw, crw, rfl⟩ := Kd.N_slice hv_
  have Orw := Aside0.mk (Aux.ON.made hv_ (fun _ h_ => h_) HB.out.size)
  have M0 := Aside0.mk hb_.size
  have n_ := Aside0.mk (below_step HB.out hb_); clear HB; have HB := n_; clear n_
  clear hb_ hv_
  go_wp2_with fail
  refine (impl_HalvesSearch.calls k a0 a1 R0 R1 _  IM.out).mono ?_
  rintro e_ w2 ⟨vrg, rfl, hv_, hb_⟩
  obtain ⟨Arg, crg, rfl⟩ := Kd.S_slice hv_
  have Org := Aside0.mk (OS.made hv_ HB.out.size)
  have M1 := Aside0.mk hb_.size
  have n_ := Aside0.mk (below_step HB.out hb_); clear HB; have HB := n_; clear n_
  have n_ := Aside0.mk (Orw.out.below hb_); clear Orw; have Orw := n_; clear n_
  clear hb_ hv_
  go_wp2_with fail
  refine (laws_eqIntSS.calls keR Arg crg R0 Arw crw R0 _ _ (Kd.S_reads' Org.out.row).2.2 (Kd.S_reads' Org.out.row).2.1 (Kd.N_reads' Orw.out.row).2.2 (Kd.N_reads' Orw.out.row).2.1 EQR.out).mono ?_
  rintro e_ w3 ⟨rfl, hd_⟩
  have hb_ := (by first | exact hd_ | exact drawn_below hd_ : Below w2.heap.size w2 w3)
  have M2 := Aside0.mk hb_.size
  have n_ := Aside0.mk (below_step HB.out hb_); clear HB; have HB := n_; clear n_
  have n_ := Aside0.mk (Orw.out.below hb_); clear Orw; have Orw := n_; clear n_
  have n_ := Aside0.mk (Org.out.below hb_); clear Org; have Org := n_; clear n_
  clear hb_ hd_
  go_wp2_with fail
  refine (laws_markIntSS.calls kmR (Bt w1.heap.size w2.heap.size) (.slice Arg R0.length crg) R0 1 mR LR w w3 HB.out Org.out.row MKR.out).mono ?_
  rintro e_ w4 ⟨rfl, hy_, hb_, hk_⟩
  have M3 := Aside0.mk hk_.1
  have n_ := Aside0.mk (Orw.out.kept hk_ (fun k_ h1_ h2_ => by have := M0.out; have := M1.out; have := M2.out; have := M3.out;  unfold Bt at h1_ h2_; omega)); clear Orw; have Orw := n_; clear n_
  have n_ := Aside0.mk (OS.back Org.out hk_ hy_); clear Org; have Org := n_; clear n_
  have n_ := Aside0.mk hb_; clear HB; have HB := n_; clear n_ hb_ hy_ hk_
  have q_ := laws_heldIntSS.calls _ Arg crg LR 1 mR w4 (by have z_ := (Kd.S_reads' Org.out.row).2.2; have y_ := (Kd.S_reads' Org.out.row).1; exact z_) (by rw [MLR.out]; exact (Kd.S_reads' Org.out.row).2.1) MHR.out
  rw [MLR.out] at q_
  go_wp2_with fail
  refine (q_).mono ?_
  rintro e_ w5 ⟨rfl, hd_⟩
  have hb_ := (by first | exact hd_ | exact drawn_below hd_ : Below w4.heap.size w4 w5)
  have M4 := Aside0.mk hb_.size
  have n_ := Aside0.mk (below_step HB.out hb_); clear HB; have HB := n_; clear n_
  have n_ := Aside0.mk (Orw.out.below hb_); clear Orw; have Orw := n_; clear n_
  have n_ := Aside0.mk (Org.out.below hb_); clear Org; have Org := n_; clear n_
  clear hb_ hd_
  clear q_
  go_wp2_with fail
  refine (impl_HalvesSearch.calls k a0 a1 R0 R1 _  IM.out).mono ?_
  rintro e_ w6 ⟨vrh, rfl, hv_, hb_⟩
  obtain ⟨Arh, crh, rfl⟩ := Kd.S_slice hv_
  have Orh := Aside0.mk (OS.made hv_ HB.out.size)
  have M5 := Aside0.mk hb_.size
  have n_ := Aside0.mk (below_step HB.out hb_); clear HB; have HB := n_; clear n_
  have n_ := Aside0.mk (Orw.out.below hb_); clear Orw; have Orw := n_; clear n_
  have n_ := Aside0.mk (Org.out.below hb_); clear Org; have Org := n_; clear n_
  clear hb_ hv_
  go_wp2_with fail
  refine (laws_eqIntSS.calls keR Arh crh R0 Arw crw R0 _ _ (Kd.S_reads' Orh.out.row).2.2 (Kd.S_reads' Orh.out.row).2.1 (Kd.N_reads' Orw.out.row).2.2 (Kd.N_reads' Orw.out.row).2.1 EQR.out).mono ?_
  rintro e_ w7 ⟨rfl, hd_⟩
  have hb_ := (by first | exact hd_ | exact drawn_below hd_ : Below w6.heap.size w6 w7)
  have M6 := Aside0.mk hb_.size
  have n_ := Aside0.mk (below_step HB.out hb_); clear HB; have HB := n_; clear n_
  have n_ := Aside0.mk (Orw.out.below hb_); clear Orw; have Orw := n_; clear n_
  have n_ := Aside0.mk (Org.out.below hb_); clear Org; have Org := n_; clear n_
  have n_ := Aside0.mk (Orh.out.below hb_); clear Orh; have Orh := n_; clear n_
  clear hb_ hd_
  have q_ := laws_heldIntSS.calls _ Arg crg LR 1 mR w7 (by have z_ := (Kd.S_reads' Org.out.row).2.2; have y_ := (Kd.S_reads' Org.out.row).1; exact z_) (by rw [MLR.out]; exact (Kd.S_reads' Org.out.row).2.1) MHR.out
  rw [MLR.out] at q_
  go_wp2_with fail
  refine (q_).mono ?_
  rintro e_ w8 ⟨rfl, hd_⟩
  have hb_ := (by first | exact hd_ | exact drawn_below hd_ : Below w7.heap.size w7 w8)
  have M7 := Aside0.mk hb_.size
  have n_ := Aside0.mk (below_step HB.out hb_); clear HB; have HB := n_; clear n_
  have n_ := Aside0.mk (Orw.out.below hb_); clear Orw; have Orw := n_; clear n_
  have n_ := Aside0.mk (Org.out.below hb_); clear Org; have Org := n_; clear n_
  have n_ := Aside0.mk (Orh.out.below hb_); clear Orh; have Orh := n_; clear n_
  clear hb_ hd_
  clear q_
  go_wp2
  go_ret
  exact ⟨rfl, HB.out⟩

end Go.Proofs.Ythkoignldhocgab.PFnExactHalvesSearch
