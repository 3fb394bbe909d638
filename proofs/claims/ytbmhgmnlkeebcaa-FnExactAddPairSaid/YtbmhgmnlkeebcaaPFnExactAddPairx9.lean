-- Written by a program of this claim, over the kit's print: the functions that a law reaches, their plain forms and the walks.
import Derived.Test.YtbmhgmnlkeebcaaPFnExactAddPairx0
import Derived.Test.YtbmhgmnlkeebcaaPFnExactAddPairx1
import Derived.Test.YtbmhgmnlkeebcaaPFnExactAddPairx7
namespace Go.Proofs.Ytbmhgmnlkeebcaa.PFnExactAddPair
open Go.RowKit Go.Proofs.YtbmhgmnlkeebcaaW.PrintWords Go.Proofs.YtbmhgmnlkeebcaaW.PrintLast Go.Proofs.YtbmhgmnlkeebcaaW.PrintMore
attribute [local go_sem] max2_int min2_int max_two min_two max_three min_three max_four min_four   -- for this text's walks alone
set_option linter.unusedVariables false
set_option linter.unusedSimpArgs false

attribute [local go_sem high] eqA40
/-! ### impl_Call_93: function 93 -/
def impl_Call_93.l0 : Nat → List (S40) → Int → Int → Int → Int → Option (Int)
  | 0, _, _, _, _, _ => none
  | k + 1, x0, x7, x8, x211000, x211001 => if x8 < x7 then (if 0 ≤ x8 then (if x8 < (x0.length : Int) then (if (x211000 == ((rd_T40 x0 x8).f0) && (x211001 == ((rd_T40 x0 x8).f1))) = true then (some x8) else (impl_Call_93.l0 k x0 x7 (wrap64 (x8 + 1)) x211000 x211001)) else (none)) else (none)) else (some (-1))
def impl_Call_93.f (k : Nat) (l0 : List (S40)) (a1_0 : Int) (a1_1 : Int) : Option (Int) := impl_Call_93.l0 k l0 (l0.length : Int) 0 a1_0 a1_1
theorem impl_Call_93.mono_l : ∀ k, (∀ y0 y1 y2 y3 y4, LeO (impl_Call_93.l0 k y0 y1 y2 y3 y4) (impl_Call_93.l0 (k + 1) y0 y1 y2 y3 y4))
  | 0 => fun _ _ _ _ _ r h => by simp [impl_Call_93.l0] at h
  | k + 1 => by
    have ih0 := impl_Call_93.mono_l k
    · intro y0 y1 y2 y3 y4
      unfold impl_Call_93.l0
      repeat' first
      | (with_reducible exact ih0 _ _ _ _ _)
      | (with_reducible exact LeO.refl _)
      | (with_reducible exact LeO.none _)
      | (with_reducible refine LeO.ite ?_ ?_)
      | (with_reducible refine LeO.bind ?_ (fun _ => ?_))
      | exact ih0 _ _ _ _ _
      | exact LeO.none _
      | refine LeO.ite ?_ ?_
      | refine LeO.bind ?_ (fun _ => ?_)
theorem impl_Call_93.mono : ∀ a0 a1 a2 k, LeO (impl_Call_93.f k a0 a1 a2) (impl_Call_93.f (k + 1) a0 a1 a2) := by
  intro a0 a1 a2 k
  have ih0 := impl_Call_93.mono_l k
  unfold impl_Call_93.f
  repeat' first
      | (with_reducible exact ih0 _ _ _ _ _)
      | (with_reducible exact LeO.refl _)
      | (with_reducible exact LeO.none _)
      | (with_reducible refine LeO.ite ?_ ?_)
      | (with_reducible refine LeO.bind ?_ (fun _ => ?_))
      | exact ih0 _ _ _ _ _
      | exact LeO.none _
      | refine LeO.ite ?_ ?_
      | refine LeO.bind ?_ (fun _ => ?_)
set_option maxHeartbeats 8000000 in
set_option maxRecDepth 100000 in
theorem impl_Call_93.calls (k : Nat) (A0 : Option Addr) (c0 : Nat) (l0 : List (S40)) (a1_0 : Int) (a1_1 : Int) (r : Int) (w : World) (hr0 : Kd.C k40 w A0 l0.length l0) (hc0 : l0.length ≤ c0) (h : impl_Call_93.f k l0 a1_0 a1_1 = some r) :
    Calls Try.prog 93 #[.slice A0 l0.length c0, .agg #[.int .i64 a1_0, .int .i64 a1_1]] w fun e w' => e = .returned (.int .i64 r) ∧ Below w.heap.size w w' := by
  have hu40 := Try.underlying40
  have HR0 := Aside0.mk hr0
  have HC0 := Aside0.mk hc0
  clear hr0 hc0
  have HB := Aside0.mk (Below.refl w.heap.size w)
  have H : (impl_Call_93.l0 k l0 (l0.length : Int) 0 a1_0 a1_1) = some r := h
  clear h
  have H' := Aside0.mk H
  clear H
  go_enter Try.func93, Try.ntmps93
  go_wp2_with (first | ((with_reducible refine gate_dst (N := 3) rfl ?_); refine box_event ?hg (N := 3) ?hd (cs := #[.int .i64 a1_0, .int .i64 a1_1]) (t := 40) ?hr ?_; (case hd => rfl); (case hg => rfl); (case hr => first | (go_simp; done) | (go_simp; rfl)); intro gb210 hg w3 hbox hb; have n0_ := Aside0.mk (below_step (by repeat (first | (with_reducible first | exact HB.out | apply below_alloc | apply pw_below_drewN | apply below_drew1) | exact HB.out)) hb); have n1_ := Aside0.mk (hbox); have n2_ := Aside0.mk ((by rw [hg]; exact (below_size (by repeat (first | (with_reducible first | exact HB.out | apply below_alloc | apply pw_below_drewN | apply below_drew1) | exact HB.out))) : w.heap.size ≤ gb210)); have n3_ := Aside0.mk ((by rw [hg]; exact (below_size (by repeat (first | (with_reducible first | exact HB.out | apply below_alloc | apply pw_below_drewN | apply below_drew1) | exact HB.out))) : w.heap.size ≤ gb210)); clear HB; have HB := n0_; have BK210 := n1_; have GW210 := n2_; have GE210 := n3_; clear n0_ n1_ n2_ n3_; clear hb hbox hg))
  repeat (go_quiet (first | ((with_reducible refine gate_dst (N := 3) rfl ?_); refine box_event ?hg (N := 3) ?hd (cs := #[.int .i64 a1_0, .int .i64 a1_1]) (t := 40) ?hr ?_; (case hd => rfl); (case hg => rfl); (case hr => first | (go_simp; done) | (go_simp; rfl)); intro gb210 hg w3 hbox hb; have n0_ := Aside0.mk (below_step (by repeat (first | (with_reducible first | exact HB.out | apply below_alloc | apply pw_below_drewN | apply below_drew1) | exact HB.out)) hb); have n1_ := Aside0.mk (hbox); have n2_ := Aside0.mk ((by rw [hg]; exact (below_size (by repeat (first | (with_reducible first | exact HB.out | apply below_alloc | apply pw_below_drewN | apply below_drew1) | exact HB.out))) : w.heap.size ≤ gb210)); have n3_ := Aside0.mk ((by rw [hg]; exact (below_size (by repeat (first | (with_reducible first | exact HB.out | apply below_alloc | apply pw_below_drewN | apply below_drew1) | exact HB.out))) : w.heap.size ≤ gb210)); clear HB; have HB := n0_; have BK210 := n1_; have GW210 := n2_; have GE210 := n3_; clear n0_ n1_ n2_ n3_; clear hb hbox hg)); try go_wp2_with (first | ((with_reducible refine gate_dst (N := 3) rfl ?_); refine box_event ?hg (N := 3) ?hd (cs := #[.int .i64 a1_0, .int .i64 a1_1]) (t := 40) ?hr ?_; (case hd => rfl); (case hg => rfl); (case hr => first | (go_simp; done) | (go_simp; rfl)); intro gb210 hg w3 hbox hb; have n0_ := Aside0.mk (below_step (by repeat (first | (with_reducible first | exact HB.out | apply below_alloc | apply pw_below_drewN | apply below_drew1) | exact HB.out)) hb); have n1_ := Aside0.mk (hbox); have n2_ := Aside0.mk ((by rw [hg]; exact (below_size (by repeat (first | (with_reducible first | exact HB.out | apply below_alloc | apply pw_below_drewN | apply below_drew1) | exact HB.out))) : w.heap.size ≤ gb210)); have n3_ := Aside0.mk ((by rw [hg]; exact (below_size (by repeat (first | (with_reducible first | exact HB.out | apply below_alloc | apply pw_below_drewN | apply below_drew1) | exact HB.out))) : w.heap.size ≤ gb210)); clear HB; have HB := n0_; have BK210 := n1_; have GW210 := n2_; have GE210 := n3_; clear n0_ n1_ n2_ n3_; clear hb hbox hg)))
  go_loopg [8] k (fun kq v8 w' => ∃ (x8_1 : Int), v8 = .int .i64 x8_1 ∧ Aside0 (impl_Call_93.l0 kq l0 (l0.length : Int) x8_1 a1_0 a1_1 = some r) ∧ Aside0 (kq ≤ k) ∧ Aside0 (w'.heap[gb210]? = some (.cells #[.int .i64 a1_0, .int .i64 a1_1] 40 (0, 0))) ∧ Aside0 (Below w.heap.size w w'))
  case atStart => exact ⟨(0), (by first | rfl | (simp; done) | (simp [*]; done)), H', ⟨Nat.le_refl _⟩, ⟨by (with_reducible repeat (first | refine blk_drewN ?_ _ | refine blk_drew ?_ | refine blk_alloc ?_ _)); exact BK210.out⟩, ⟨by repeat (first | (with_reducible first | exact HB.out | apply below_alloc | apply pw_below_drewN | apply below_drew1 | refine below_set ?_ GE210.out) | exact HB.out)⟩⟩
  case round =>
    clear H'
    try clear p2
    obtain ⟨x8_1, rfl, HA, HK1, BK210, HB⟩ := hrel
    cases gk with
    | zero => exact absurd HA.out (by simp [impl_Call_93.l0])
    | succ k1 =>
      have H := HA.out
      clear HA
      simp only [impl_Call_93.l0] at H
      by_cases c4 : x8_1 < (l0.length : Int)
      · rw [if_pos c4] at H
        have c4b0 : decide (x8_1 < (l0.length : Int)) = true := decide_eq_true c4
        clear c4
        by_cases c5 : 0 ≤ x8_1
        · rw [if_pos c5] at H
          have c5b0 : decide (0 ≤ x8_1) = true := decide_eq_true c5
          clear c5
          by_cases c6 : x8_1 < (l0.length : Int)
          · rw [if_pos c6] at H
            have c6b0 : decide (x8_1 < (l0.length : Int)) = true := decide_eq_true c6
            clear c6
            by_cases c7 : (a1_0 == ((rd_T40 l0 x8_1).f0) && (a1_1 == ((rd_T40 l0 x8_1).f1))) = true
            · rw [if_pos c7] at H
              have c7b0 : (a1_0 == ((rd_T40 l0 x8_1).f0) && (a1_1 == ((rd_T40 l0 x8_1).f1))) = true := c7
              (try (have c7b1 : decide (a1_0 = ((rd_T40 l0 x8_1).f0) && (a1_1 == ((rd_T40 l0 x8_1).f1))) = true := by simpa using c7))
              (try (have c7b2 : (a1_0 == ((rd_T40 l0 x8_1).f0) && (a1_1 == ((rd_T40 l0 x8_1).f1))) = true := by simpa using c7))
              clear c7
              obtain rfl := Option.some.inj H
              have hcz8_0 : wr.cell? ⟨gb210, 0, none⟩ = some (.int .i64 a1_0) := (blk_cell BK210.out 0).trans rfl
              have hcz8_1 : wr.cell? ⟨gb210, 1, none⟩ = some (.int .i64 a1_1) := (blk_cell BK210.out 1).trans rfl
              have hfz8_0 := blk_frozen BK210.out 0
              have hfz8_1 := blk_frozen BK210.out 1
              have p211 : 0 ≤ (x8_1 : Int) := of_decide_eq_true (by first | (with_reducible assumption) | assumption)
              have q211 : x8_1 < (l0.length : Int) := of_decide_eq_true (by first | (with_reducible assumption) | assumption)
              obtain ⟨ad211, e211, hx211_0, hx211_1⟩ := at_T40 HR0.out x8_1 p211 q211
              cases e211
              replace hx211_0 := (HB.out.cell (World.block_lt_of_cell? w _ hx211_0)).trans hx211_0
              replace hx211_1 := (HB.out.cell (World.block_lt_of_cell? w _ hx211_1)).trans hx211_1
              replace p211 := eq_true p211
              replace q211 := eq_true q211
              go_wp2
              repeat (go_quiet (fail); try go_wp2)
              go_ret
              exact ⟨by first | rfl | (simp [errW_none, errW_some] <;> rfl) | (simp [*, errW_none, errW_some] <;> rfl), by repeat (first | (with_reducible first | exact HB.out | apply below_alloc | apply pw_below_drewN | apply below_drew1 | refine below_set ?_ GE210.out) | exact HB.out)⟩
            · rw [if_neg c7] at H
              have c7b0 : (a1_0 == ((rd_T40 l0 x8_1).f0) && (a1_1 == ((rd_T40 l0 x8_1).f1))) = false := by simpa using c7
              (try (have c7b1 : decide (a1_0 = ((rd_T40 l0 x8_1).f0) && (a1_1 == ((rd_T40 l0 x8_1).f1))) = false := by simpa using c7))
              (try (have c7b2 : (a1_0 == ((rd_T40 l0 x8_1).f0) && (a1_1 == ((rd_T40 l0 x8_1).f1))) = false := by simpa using c7))
              (try (have c7b3 : ¬ (a1_0 = ((rd_T40 l0 x8_1).f0) && (a1_1 == ((rd_T40 l0 x8_1).f1))) := by simpa using c7))
              clear c7
              have H' := Aside0.mk H
              clear H
              have hcz9_0 : wr.cell? ⟨gb210, 0, none⟩ = some (.int .i64 a1_0) := (blk_cell BK210.out 0).trans rfl
              have hcz9_1 : wr.cell? ⟨gb210, 1, none⟩ = some (.int .i64 a1_1) := (blk_cell BK210.out 1).trans rfl
              have hfz9_0 := blk_frozen BK210.out 0
              have hfz9_1 := blk_frozen BK210.out 1
              have p211 : 0 ≤ (x8_1 : Int) := of_decide_eq_true (by first | (with_reducible assumption) | assumption)
              have q211 : x8_1 < (l0.length : Int) := of_decide_eq_true (by first | (with_reducible assumption) | assumption)
              obtain ⟨ad211, e211, hx211_0, hx211_1⟩ := at_T40 HR0.out x8_1 p211 q211
              cases e211
              replace hx211_0 := (HB.out.cell (World.block_lt_of_cell? w _ hx211_0)).trans hx211_0
              replace hx211_1 := (HB.out.cell (World.block_lt_of_cell? w _ hx211_1)).trans hx211_1
              replace p211 := eq_true p211
              replace q211 := eq_true q211
              go_wp2
              repeat (go_quiet (fail); try go_wp2)
              go_roundg k1
              case measure => have := HK1.out; omega
              case rel => exact ⟨(wrap64 (x8_1 + 1)), (by first | rfl | (simp; done) | (simp [*]; done)), H', ⟨by have := HK1.out; omega⟩, ⟨by (with_reducible repeat (first | refine blk_drewN ?_ _ | refine blk_drew ?_ | refine blk_alloc ?_ _)); exact BK210.out⟩, ⟨by repeat (first | (with_reducible first | exact HB.out | apply below_alloc | apply pw_below_drewN | apply below_drew1 | refine below_set ?_ GE210.out) | exact HB.out)⟩⟩
          · rw [if_neg c6] at H
            exact absurd H (by simp)
        · rw [if_neg c5] at H
          exact absurd H (by simp)
      · rw [if_neg c4] at H
        have c4b0 : decide (x8_1 < (l0.length : Int)) = false := decide_eq_false c4
        clear c4
        obtain rfl := Option.some.inj H
        go_wp2
        repeat (go_quiet (fail); try go_wp2)
        go_ret
        exact ⟨by first | rfl | (simp [errW_none, errW_some] <;> rfl) | (simp [*, errW_none, errW_some] <;> rfl), by repeat (first | (with_reducible first | exact HB.out | apply below_alloc | apply pw_below_drewN | apply below_drew1 | refine below_set ?_ GE210.out) | exact HB.out)⟩

/-! ### impl_Call_61: function 61 -/
def impl_Call_61.f (k : Nat) (l0 : List (S40)) (a1_0 : Int) (a1_1 : Int) : Option (Bool) := (impl_Call_93.f k l0 a1_0 a1_1).bind fun t213 => (some (decide (t213 ≥ 0)))
theorem impl_Call_61.mono : ∀ a0 a1 a2 k, LeO (impl_Call_61.f k a0 a1 a2) (impl_Call_61.f (k + 1) a0 a1 a2) := by
  intro a0 a1 a2 k
  unfold impl_Call_61.f
  repeat' first
      | (with_reducible exact impl_Call_93.mono _ _ _ _)
      | (with_reducible exact LeO.refl _)
      | (with_reducible exact LeO.none _)
      | (with_reducible refine LeO.ite ?_ ?_)
      | (with_reducible refine LeO.bind ?_ (fun _ => ?_))
      | exact impl_Call_93.mono _ _ _ _
      | exact LeO.none _
      | refine LeO.ite ?_ ?_
      | refine LeO.bind ?_ (fun _ => ?_)
set_option maxHeartbeats 8000000 in
set_option maxRecDepth 100000 in
theorem impl_Call_61.calls (k : Nat) (A0 : Option Addr) (c0 : Nat) (l0 : List (S40)) (a1_0 : Int) (a1_1 : Int) (r : Bool) (w : World) (hr0 : Kd.C k40 w A0 l0.length l0) (hc0 : l0.length ≤ c0) (h : impl_Call_61.f k l0 a1_0 a1_1 = some r) :
    Calls Try.prog 61 #[.slice A0 l0.length c0, .agg #[.int .i64 a1_0, .int .i64 a1_1]] w fun e w' => e = .returned (.bool r) ∧ Below w.heap.size w w' := by
  have hu40 := Try.underlying40
  have HR0 := Aside0.mk hr0
  have HC0 := Aside0.mk hc0
  clear hr0 hc0
  have HB := Aside0.mk (Below.refl w.heap.size w)
  have H : ((impl_Call_93.f k l0 a1_0 a1_1).bind fun t213 => (some (decide (t213 ≥ 0)))) = some r := h
  clear h
  replace H := Option.bind_eq_some_iff.mp H
  obtain ⟨t213, A30, H⟩ := H
  replace H : (some (decide (t213 ≥ 0))) = some r := H
  have A3 := Aside0.mk A30
  clear A30
  obtain rfl := Option.some.inj H
  go_enter Try.func61, Try.ntmps61
  go_wp2_with (first | ((with_reducible refine gate_dst (N := 3) rfl ?_); refine box_event ?hg (N := 3) ?hd (cs := #[.int .i64 a1_0, .int .i64 a1_1]) (t := 40) ?hr ?_; (case hd => rfl); (case hg => rfl); (case hr => first | (go_simp; done) | (go_simp; rfl)); intro gb212 hg w4 hbox hb; have n0_ := Aside0.mk (below_step (by repeat (first | (with_reducible first | exact HB.out | apply below_alloc | apply pw_below_drewN | apply below_drew1) | exact HB.out)) hb); have n1_ := Aside0.mk (hbox); have n2_ := Aside0.mk ((by rw [hg]; exact (below_size (by repeat (first | (with_reducible first | exact HB.out | apply below_alloc | apply pw_below_drewN | apply below_drew1) | exact HB.out))) : w.heap.size ≤ gb212)); have n3_ := Aside0.mk ((by rw [hg]; exact (below_size (by repeat (first | (with_reducible first | exact HB.out | apply below_alloc | apply pw_below_drewN | apply below_drew1) | exact HB.out))) : w.heap.size ≤ gb212)); clear HB; have HB := n0_; have BK212 := n1_; have GW212 := n2_; have GE212 := n3_; clear n0_ n1_ n2_ n3_; clear hb hbox hg; have hcz5_0 : w4.cell? ⟨gb212, 0, none⟩ = some (.int .i64 a1_0) := (blk_cell BK212.out 0).trans rfl; have hcz5_1 : w4.cell? ⟨gb212, 1, none⟩ = some (.int .i64 a1_1) := (blk_cell BK212.out 1).trans rfl; have hfz5_0 := blk_frozen BK212.out 0; have hfz5_1 := blk_frozen BK212.out 1) | ((with_reducible refine gate_callee (f := 93) rfl ?_); refine goesL_ (some 7) rfl rfl Try.func93 (by kernel_rfl) rfl #[.slice A0 l0.length c0, .agg #[.int .i64 a1_0, .int .i64 a1_1]] rfl (by (try simp only [List.map_toArray, List.map_cons, List.map_nil]); first | done | rfl | (simp only [List.length_drop, List.length_take]; rfl) | (simp; done) | (refine congrArg Value.bool ?_; simp; done) | (refine congrArg (fun z_ => #[Value.bool z_]) ?_; simp; done)) ?_; (with_reducible refine (impl_Call_93.calls k _ _ l0 a1_0 a1_1 t213 _ ?side1 ?side2 A3.out).mono ?_); (case side1 => repeat (first | exact (Kd.C_below HR0.out HB.out) | (with_reducible refine Kd.C_alloc ?_ _) | (with_reducible refine Kd.C_drewN ?_ _) | (with_reducible refine Kd.C_drew ?_))); (case side2 => exact HC0.out); rintro e w6 ⟨rfl, hb⟩; refine ⟨_, rfl, ?_⟩; have n0_ := Aside0.mk (blk_below (g := gb212) (o := .cells #[.int .i64 a1_0, .int .i64 a1_1] 40 (0, 0)) (by (with_reducible repeat (first | refine blk_drewN ?_ _ | refine blk_drew ?_ | refine blk_alloc ?_ _)); exact BK212.out) hb); have n1_ := Aside0.mk (below_step (by repeat (first | (with_reducible first | exact HB.out | apply below_alloc | apply pw_below_drewN | apply below_drew1 | refine below_set ?_ GE212.out) | exact HB.out)) hb); clear BK212; clear HB; have BK212 := n0_; have HB := n1_; clear n0_ n1_; (try clear hb); (try clear hb2); (try clear hk); (try clear hi)))
  go_ret
  exact ⟨by first | rfl | (simp [errW_none, errW_some] <;> rfl) | (simp [*, errW_none, errW_some] <;> rfl), by repeat (first | (with_reducible first | exact HB.out | apply below_alloc | apply pw_below_drewN | apply below_drew1 | refine below_set ?_ GE212.out) | exact HB.out)⟩

/-! ### impl_Call_62: function 62 -/
def impl_Call_62.f (l0 : List (S40)) : Option (List (S40)) := if l0.length < 8796093022208 then some l0 else none
theorem impl_Call_62.none_ {w : World} {n : Nat} {l0 : List (S40)} (h : Kd.C k40 w none n l0) : n = 0 := by
  rcases Nat.eq_zero_or_pos n with e | e
  · exact e
  · obtain ⟨ad, h1, _⟩ := h.2.2 e
    cases h1
set_option maxRecDepth 100000 in
theorem impl_Call_62.calls (A0 : Option Addr) (c0 : Nat) (l0 : List (S40)) (r : List (S40)) (w : World) (hr0 : Kd.C k40 w A0 l0.length l0) (hc0 : l0.length ≤ c0) (h : impl_Call_62.f l0 = some r) :
    Calls Try.prog 62 #[.slice A0 l0.length c0] w fun e w' => ∃ v0_ : Value, e = .returned (v0_) ∧ Kd.R k40 40 w' w.heap.size (fun _ => True) v0_ r ∧ Below w.heap.size w w' := by
  unfold impl_Call_62.f at h
  split at h
  case isFalse => cases h
  rename_i hlim
  obtain rfl := Option.some.inj h
  have LM := Aside0.mk hlim
  have HR0 := Aside0.mk hr0
  have HC0 := Aside0.mk hc0
  have HB := Aside0.mk (Below.refl w.heap.size w)
  clear h hlim hr0 hc0
  cases A0 with
  | none =>
    have h0 := impl_Call_62.none_ HR0.out
    obtain rfl := List.eq_nil_of_length_eq_zero h0
    clear h0
    have he : ∀ w : World, (binOp .eql 24 (.slice none 0 c0) (.slice none 0 0)).run Try.prog w = .ok (.bool true) w := fun _ => rfl
    go_enter Try.func62, Try.ntmps62
    go_wp2
    go_ret
    exact ⟨_, rfl, Kd.R_nil _ _ _ _ _, HB.out⟩
  | some ad =>
    have he : ∀ w : World, (binOp .eql 24 (.slice (some ad) l0.length c0) (.slice none 0 0)).run Try.prog w = .ok (.bool false) w := fun _ => rfl
    go_enter Try.func62, Try.ntmps62
    go_wp2_with (first | ((with_reducible refine gate_dst (N := 5) rfl ?_); refine Kd.R_lit k40 _ 40 ?hg (N := 5) ?hd (xs := ([] : List (S40))) (inner := []) (ok := fun _ => True) (okp := fun _ => True) ?hr ?hp (fun _ hk => hk) trivial (Below.refl _ _) (Nat.le_refl _) (by simp) ?_; (case hd => rfl); (case hg => rfl); (case hr => first | (go_simp; done) | (go_simp; rfl)); (case hp => exact (Reps.none _ _)); intro v1 w3 ho4 hb hg_ hnew_; clear hg_ hnew_; have n0_ := Aside0.mk (Kd.R_lower ho4 (below_size (by repeat (first | (with_reducible first | exact HB.out | apply below_alloc | apply pw_below_drewN | apply below_drew1) | exact HB.out)))); have n1_ := Aside0.mk (below_step (by repeat (first | (with_reducible first | exact HB.out | apply below_alloc | apply pw_below_drewN | apply below_drew1) | exact HB.out)) hb); clear HB; have HO1 := n0_; have HB := n1_; clear n0_ n1_; clear hb ho4) | ((with_reducible refine gate_builtin (b := .append) (xs := #[.tmp 5, .tmp 6]) rfl ?_); at_builtin; refine Kd.R_append_rows k40 (w0 := w) w.heap.size rfl (.tmp 5) (.tmp 6) 24 40 (.agg #[(.int .i64 0), (.int .i64 0)]) 16 rfl Try.underlying24 info40 rfl (by decide) (by omega) v1 [] l0 _ _ _ (fun _ => True) (fun _ => False) rfl rfl ?aO ?aR (fun _ _ h => h) (fun _ h => h.elim) ?aF ?aB ?aS ?aL ?_; (case aR => repeat (first | exact (Kd.C_below HR0.out HB.out) | (with_reducible refine Kd.C_alloc ?_ _) | (with_reducible refine Kd.C_drewN ?_ _) | (with_reducible refine Kd.C_drew ?_))); (case aB => exact (by repeat (first | (with_reducible first | exact HB.out | apply below_alloc | apply pw_below_drewN | apply below_drew1) | exact HB.out))); (case aF => exact (fun _ _ => trivial)); (case aO => exact (by (with_reducible repeat (first | apply Kd.R_alloc | apply Kd.R_drewN | apply Kd.R_drew)); exact HO1.out)); (case aS => exact (below_size (by repeat (first | (with_reducible first | exact HB.out | apply below_alloc | apply pw_below_drewN | apply below_drew1) | exact HB.out)))); (case aL => have := LM.out; simp only [List.length_nil]; omega); intro v2 w5 ho hb hg hat; rw [List.nil_append] at ho; have n0_ := Aside0.mk (hb); have n1_ := Aside0.mk (ho); clear HB; clear HO1; have HB := n0_; have HO2 := n1_; clear n0_ n1_; clear ho hb hg hat))
    go_ret
    exact ⟨_, rfl, by (with_reducible repeat (first | apply Kd.R_alloc | apply Kd.R_drewN | apply Kd.R_drew)); exact HO2.out, by repeat (first | (with_reducible first | exact HB.out | apply below_alloc | apply pw_below_drewN | apply below_drew1) | exact HB.out)⟩


/-! ### impl_Call_63: function 63 -/
/-- A row of one's own whose cells have been laid anew, and other blocks behind it. -/
theorem impl_Call_63.put_heap {α : Type} [Inhabited α] {enc : α → Value} {w : World} {g n : Nat} {ys : List α} {os : Array Obj} {cur : Array Value} {t : Nat} (h : w.heap[g]? = some (.cells cur t (0, 0))) :
    (Go.Sort.grow (Go.Sort.putRow enc (Go.Sort.ahead w n) g 0 ys.toArray) os).heap[g]? = some (.cells (Go.Sort.putCells enc 0 ys.toArray cur) t (0, 0)) := by
  have hlt : g < w.heap.size := by
    rcases Nat.lt_or_ge g w.heap.size with h1 | h1
    · exact h1
    · rw [Array.getElem?_eq_none h1] at h; cases h
  unfold Go.Sort.grow Go.Sort.putRow Go.Sort.mapBlock Go.Sort.ahead
  simp only
  rw [Array.getElem?_append_left (by rw [Array.size_modify]; exact hlt), Array.getElem?_modify, if_pos rfl, h]
  rfl
theorem impl_Call_63.put_other {α : Type} [Inhabited α] {enc : α → Value} {w : World} {g n : Nat} {ys : List α} {os : Array Obj} {k : Nat} (hk : k < w.heap.size) (hne : k ≠ g) :
    (Go.Sort.grow (Go.Sort.putRow enc (Go.Sort.ahead w n) g 0 ys.toArray) os).heap[k]? = w.heap[k]? := by
  unfold Go.Sort.grow Go.Sort.putRow Go.Sort.mapBlock Go.Sort.ahead
  simp only
  rw [Array.getElem?_append_left (by rw [Array.size_modify]; exact hk), Array.getElem?_modify, if_neg (fun h => hne h.symm)]
theorem impl_Call_63.put_size {α : Type} [Inhabited α] {enc : α → Value} {w : World} {g n : Nat} {ys : List α} {os : Array Obj} :
    w.heap.size ≤ (Go.Sort.grow (Go.Sort.putRow enc (Go.Sort.ahead w n) g 0 ys.toArray) os).heap.size := by
  unfold Go.Sort.grow Go.Sort.putRow Go.Sort.mapBlock Go.Sort.ahead
  simp
theorem impl_Call_63.put_cells {α : Type} [Inhabited α] (enc : α → Value) (ys : List α) (cur : Array Value) (h : ys.length ≤ cur.size) : (Go.Sort.putCells enc 0 ys.toArray cur).toList.take ys.length = encs enc ys ∧ (Go.Sort.putCells enc 0 ys.toArray cur).size = cur.size := by
  have hs : (Go.Sort.putCells enc 0 ys.toArray cur).size = cur.size := by simp [Go.Sort.putCells]
  refine ⟨?_, hs⟩
  apply List.ext_getElem?
  intro k
  rw [List.getElem?_take]
  by_cases hk : k < ys.length
  · rw [if_pos hk, Array.getElem?_toList]
    unfold Go.Sort.putCells encs
    rw [Array.getElem?_mapIdx, Array.getElem?_eq_getElem (by omega), Option.map_some, if_pos (by simp; omega), List.getElem?_map, List.getElem?_eq_getElem hk]
    simp [getElem!_pos, hk]
  · rw [if_neg hk, List.getElem?_eq_none (by rw [encs_length]; omega)]
/-- A row of one's own, laid anew. -/
theorem impl_Call_63.put_row {α : Type} [Inhabited α] {enc : α → Value} {h1 : ∀ x, (enc x).oneCell' = true} {t : Nat} {w w0 : World} {ok : Nat → Prop} {g cap n : Nat} {xs ys : List α} {os : Array Obj} (hR : (Kd.scalar enc h1).R t w w0.heap.size ok (.slice (some ⟨g, 0, none⟩) xs.length cap) xs) (hy : ys.length = xs.length) (hB : Below w0.heap.size w0 w)
    (w' : World) (hw : w' = Go.Sort.grow (Go.Sort.putRow enc (Go.Sort.ahead w n) g 0 ys.toArray) os) :
    (Kd.scalar enc h1).R t w' w0.heap.size ok (.slice (some ⟨g, 0, none⟩) xs.length cap) ys ∧ Below w0.heap.size w0 w' ∧ Kept w w' ok := by
  obtain ⟨hl, hc⟩ := Kd.own_of_R hR
  rcases hc with ⟨hc, _⟩ | ⟨g', cap', cur, hc, hg, hh, hn, hm, hs, ht⟩
  · cases hc
  · injection hc with hc1 hc2 hc3
    injection hc1 with hc1
    injection hc1 with hc1 _ _
    subst hc1 hc3
    have hlt : w0.heap.size ≤ w.heap.size := hB.size
    obtain ⟨p1, p2⟩ := impl_Call_63.put_cells enc ys cur (by rw [hs]; omega)
    subst hw
    refine ⟨?_, ?_, ?_⟩
    · rw [← hy]
      refine Kd.R_of_own ⟨by rw [encs_length]; omega, .inr ⟨g, cap, _, rfl, hg, impl_Call_63.put_heap hh, by omega, hm, by rw [p2, hs], by rw [Nat.mul_one]; exact p1⟩⟩ (fun k hk => hR.1 k (by simpa [Value.ownBlock] using hk))
    · refine ⟨hB.os, hB.tape, hB.output, Nat.le_trans hB.size impl_Call_63.put_size, fun k hk => ?_⟩
      rw [impl_Call_63.put_other (by omega) (by omega)]
      exact hB.block k hk
    · refine ⟨impl_Call_63.put_size, fun k hk hne => impl_Call_63.put_other hk (fun e => hne (e ▸ hR.1 g (by simp [Value.ownBlock])))⟩
/-- What a row of one's own holds, in the sort's words. -/
theorem impl_Call_63.holds {α : Type} [Inhabited α] {enc : α → Value} {h1 : ∀ x, (enc x).oneCell' = true} {t : Nat} {w : World} {b : Nat} {ok : Nat → Prop} {g cap : Nat} {xs : List α} (hR : (Kd.scalar enc h1).R t w b ok (.slice (some ⟨g, 0, none⟩) xs.length cap) xs) :
    Go.Sort.Holds enc w g 0 xs.toArray := by
  intro j hj
  have hj' : j < xs.length := by simpa using hj
  have := Kd.R_cell (xs[j]'hj') hR (j : Int) (by omega) (by omega)
  rw [Int.toNat_natCast] at this
  have e : rdOf (xs[j]'hj') xs (j : Int) = xs.toArray[j]! := by
    unfold rdOf
    simp [getElem!_pos, hj']
  rw [e] at this
  rw [Nat.zero_add]
  exact this
def LaySfQ_ren : Go.Shelf.Ren := ⟨fun | 6 => 63 | 15 => 95 | 14 => 94 | 28 => 117 | 29 => 118 | 20 => 109 | 21 => 110 | 22 => 111 | 23 => 112 | 24 => 113 | 25 => 114 | 26 => 115 | 27 => 116 | 46 => 127 | 47 => 128 | 48 => 129 | 49 => 130 | 50 => 131 | 57 => 155 | n => n, fun | 22 => 24 | 24 => 40 | 25 => 69 | 3 => 3 | 39 => 93 | 0 => 0 | 53 => 112 | 55 => 114 | 4 => 4 | 46 => 105 | 45 => 104 | 50 => 109 | 5 => 5 | 9 => 9 | 66 => 120 | 70 => 124 | 76 => 141 | 77 => 142 | n => n, fun | n => n⟩
theorem LaySfQ : Go.Proofs.SlLaysF0.n6 Try.prog LaySfQ_ren := {
  mixed := by kernel_rfl
  f6 := ⟨Try.f63.name, by decide, Try.func63.trans (congrArg some (by kernel_rfl))⟩
  f14 := ⟨Try.f94.name, by decide, Try.func94.trans (congrArg some (by kernel_rfl))⟩
  f15 := Try.func95.trans (congrArg some (by kernel_rfl))
  f20 := ⟨Try.f109.name, by decide, Try.func109.trans (congrArg some (by kernel_rfl))⟩
  f21 := ⟨Try.f110.name, by decide, Try.func110.trans (congrArg some (by kernel_rfl))⟩
  f22 := ⟨Try.f111.name, by decide, Try.func111.trans (congrArg some (by kernel_rfl))⟩
  f23 := ⟨Try.f112.name, by decide, Try.func112.trans (congrArg some (by kernel_rfl))⟩
  f24 := ⟨Try.f113.name, by decide, Try.func113.trans (congrArg some (by kernel_rfl))⟩
  f25 := ⟨Try.f114.name, by decide, Try.func114.trans (congrArg some (by kernel_rfl))⟩
  f26 := ⟨Try.f115.name, by decide, Try.func115.trans (congrArg some (by kernel_rfl))⟩
  f27 := ⟨Try.f116.name, by decide, Try.func116.trans (congrArg some (by kernel_rfl))⟩
  f28 := Try.func117.trans (congrArg some (by kernel_rfl))
  f29 := Try.func118.trans (congrArg some (by kernel_rfl))
  f46 := ⟨Try.f127.name, by decide, Try.func127.trans (congrArg some (by kernel_rfl))⟩
  f47 := Try.func128.trans (congrArg some (by kernel_rfl))
  f48 := Try.func129.trans (congrArg some (by kernel_rfl))
  f49 := ⟨Try.f130.name, by decide, Try.func130.trans (congrArg some (by kernel_rfl))⟩
  f50 := ⟨Try.f131.name, by decide, Try.func131.trans (congrArg some (by kernel_rfl))⟩
  f57 := ⟨Try.f155.name, by decide, Try.func155.trans (congrArg some (by kernel_rfl))⟩
  t0 := Try.underlying0
  a0 := Try.isAgg0
  z0 := Try.sizeOf0
  v0 := Try.zeroValue0
  t3 := Try.underlying3
  a3 := Try.isAgg3
  z3 := Try.sizeOf3
  v3 := Try.zeroValue3
  t4 := Try.underlying4
  a4 := Try.isAgg4
  z4 := Try.sizeOf4
  v4 := Try.zeroValue4
  t5 := Try.underlying5
  a5 := Try.isAgg5
  z5 := Try.sizeOf5
  v5 := Try.zeroValue5
  t9 := Try.underlying9
  a9 := Try.isAgg9
  z9 := Try.sizeOf9
  v9 := Try.zeroValue9
  t22 := Try.underlying24
  a22 := Try.isAgg24
  z22 := Try.sizeOf24
  v22 := Try.zeroValue24
  t25 := Try.underlying69
  a25 := Try.isAgg69
  z25 := Try.sizeOf69
  v25 := Try.zeroValue69
  t39 := Try.underlying93
  a39 := Try.isAgg93
  z39 := Try.sizeOf93
  v39 := Try.zeroValue93
  t45 := Try.underlying104
  a45 := Try.isAgg104
  z45 := Try.sizeOf104
  v45 := Try.zeroValue104
  t46 := Try.underlying105
  a46 := Try.isAgg105
  z46 := Try.sizeOf105
  v46 := Try.zeroValue105
  t50 := Try.underlying109
  a50 := Try.isAgg109
  z50 := Try.sizeOf109
  v50 := Try.zeroValue109
  t53 := Try.underlying112
  a53 := Try.isAgg112
  z53 := Try.sizeOf112
  v53 := Try.zeroValue112
  t55 := Try.underlying114
  a55 := Try.isAgg114
  z55 := Try.sizeOf114
  v55 := Try.zeroValue114
  t66 := Try.underlying120
  a66 := Try.isAgg120
  z66 := Try.sizeOf120
  v66 := Try.zeroValue120
  t70 := Try.underlying124
  a70 := Try.isAgg124
  z70 := Try.sizeOf124
  v70 := Try.zeroValue124
  t76 := Try.underlying141
  a76 := Try.isAgg141
  z76 := Try.sizeOf141
  v76 := Try.zeroValue141
  t77 := Try.underlying142
  a77 := Try.isAgg142
  z77 := Try.sizeOf142
  v77 := Try.zeroValue142 }
def impl_Call_63.enc (x : S40) : List Value := [.int .i64 x.f0, .int .i64 x.f1]
instance impl_Call_63.inh : Inhabited S40 := ⟨⟨0, 0⟩⟩
theorem impl_Call_63.flat_get (d : Array S40) (t : Nat) (h : t < d.size * 2) : (Go.Sort.flatK impl_Call_63.enc 2 d).toList[t]? = (impl_Call_63.enc d[t / 2]!)[t % 2]? := by
  have hs : t < (Go.Sort.flatK impl_Call_63.enc 2 d).size := by rw [Go.Sort.size_flatK]; exact h
  have hg := Go.Sort.get_flatK impl_Call_63.enc 2 d t h
  rw [getElem!_pos _ t hs] at hg
  rw [Array.getElem?_toList, Array.getElem?_eq_getElem hs, hg]
  have h2 : t % 2 = 0 ∨ t % 2 = 1 := by omega
  unfold impl_Call_63.enc
  rcases h2 with e | e <;> rw [e] <;> rfl
theorem impl_Call_63.flat_chunk (d : Array S40) (j : Nat) (h : j < d.size) : ((Go.Sort.flatK impl_Call_63.enc 2 d).toList.drop (j * 2)).take 2 = impl_Call_63.enc d[j]! := by
  apply List.ext_getElem?
  intro i
  rw [List.getElem?_take]
  by_cases hi : i < 2
  · rw [if_pos hi, List.getElem?_drop, impl_Call_63.flat_get d _ (by omega), show (j * 2 + i) / 2 = j by omega, show (j * 2 + i) % 2 = i by omega]
  · rw [if_neg hi, List.getElem?_eq_none (by simp [impl_Call_63.enc]; omega)]
theorem impl_Call_63.flat_of {d : Array S40} {inner : List Value} (hl : inner.length = d.size * 2) (h : ∀ j, j < d.size → (inner.drop (j * 2)).take 2 = impl_Call_63.enc d[j]!) : (Go.Sort.flatK impl_Call_63.enc 2 d).toList = inner := by
  apply List.ext_getElem?
  intro t
  by_cases ht : t < d.size * 2
  · have e := h (t / 2) (by omega)
    have e2 := congrArg (fun l => l[t % 2]?) e
    simp only [List.getElem?_take, List.getElem?_drop] at e2
    rw [if_pos (by omega), show t / 2 * 2 + t % 2 = t by omega] at e2
    rw [impl_Call_63.flat_get d t ht, e2]
  · rw [List.getElem?_eq_none (by simp; omega), List.getElem?_eq_none (by omega)]
def impl_Call_63.cmp1 (x y : Int) : Int := if x < y then -1 else if x > y then 1 else 0
def impl_Call_63.cf (x y : S40) : Int := if impl_Call_63.cmp1 x.f0 y.f0 = 0 then impl_Call_63.cmp1 x.f1 y.f1 else impl_Call_63.cmp1 x.f0 y.f0
theorem impl_Call_63.cmp1_f (x y : Int) : cmp_Compare_int.f x y = some (impl_Call_63.cmp1 x y) := by
  unfold cmp_Compare_int.f cmp_isNaN_int.f impl_Call_63.cmp1
  simp only [bne_self_eq_false, Option.bind_some, Bool.false_eq_true, if_false]
  split
  · rfl
  · split <;> rfl
theorem impl_Call_63.or2_f (x y : Int) : cmp_Or_int.f 10 [x, y] = some (if x = 0 then y else x) := by
  have r0 : rd [x, y] 0 = x := rfl
  have r1 : rd [x, y] 1 = y := rfl
  have u0 : wrap64 (0 + 1) = 1 := by unfold wrap64; omega
  have u1 : wrap64 (1 + 1) = 2 := by unfold wrap64; omega
  unfold cmp_Or_int.f
  have e2 : cmp_Or_int.l0 8 0 [x, y] 2 2 = some 0 := by
    simp only [cmp_Or_int.l0]; rw [if_neg (by omega)]
  have e1 : cmp_Or_int.l0 9 0 [x, y] 2 1 = some y := by
    rw [cmp_Or_int.l0, if_pos (by omega), if_pos (by omega), if_pos (by simp), r1, u1]
    by_cases hy : y = 0
    · rw [if_pos hy, e2, hy]
    · rw [if_neg hy]
  show cmp_Or_int.l0 10 0 [x, y] 2 0 = _
  rw [cmp_Or_int.l0, if_pos (by omega), if_pos (by omega), if_pos (by simp), r0, u0]
  by_cases hx : x = 0
  · rw [if_pos hx, e1, if_pos hx]
  · rw [if_neg hx, if_neg hx]
theorem impl_Call_63.cmp_f (x y : S40) : impl_compareCalls.f 10 x.f0 x.f1 y.f0 y.f1 = some (impl_Call_63.cf x y) := by
  unfold impl_compareCalls.f
  simp only [impl_Call_63.cmp1_f, Option.bind_some, impl_Call_63.or2_f]
  rfl
theorem impl_Call_63.cmp1_lt (x y : Int) : impl_Call_63.cmp1 x y < 0 ↔ x < y := by
  unfold impl_Call_63.cmp1
  split
  · simp [*]
  · split <;> simp <;> omega
theorem impl_Call_63.cmp1_eq (x y : Int) : impl_Call_63.cmp1 x y = 0 ↔ x = y := by
  unfold impl_Call_63.cmp1
  split
  · simp; omega
  · split <;> simp <;> omega
theorem impl_Call_63.lt_iff (x y : S40) : ltOf impl_Call_63.cf x y = true ↔ (x.f0 < y.f0 ∨ (x.f0 = y.f0 ∧ x.f1 < y.f1)) := by
  unfold ltOf impl_Call_63.cf
  rw [decide_eq_true_eq]
  by_cases h : impl_Call_63.cmp1 x.f0 y.f0 = 0
  · rw [if_pos h, impl_Call_63.cmp1_lt]
    have := (impl_Call_63.cmp1_eq _ _).1 h
    omega
  · rw [if_neg h, impl_Call_63.cmp1_lt]
    have : ¬ x.f0 = y.f0 := fun e => h ((impl_Call_63.cmp1_eq x.f0 y.f0).2 e)
    omega
theorem impl_Call_63.nlt_iff (x y : S40) : ltOf impl_Call_63.cf x y = false ↔ ¬ (x.f0 < y.f0 ∨ (x.f0 = y.f0 ∧ x.f1 < y.f1)) := by
  rw [← impl_Call_63.lt_iff, Bool.not_eq_true]
theorem impl_Call_63.swo : Go.Sort.SWO (ltOf impl_Call_63.cf) where
  irrefl x := by rw [impl_Call_63.nlt_iff]; omega
  trans x y z h1 h2 := by rw [impl_Call_63.lt_iff] at *; omega
  ntrans x y z h1 h2 := by rw [impl_Call_63.nlt_iff] at *; omega
/-- By the first friend, then by the second one. -/
def impl_Call_63.le (x y : S40) : Bool := decide (x.f0 < y.f0 ∨ (x.f0 = y.f0 ∧ x.f1 ≤ y.f1))
theorem impl_Call_63.le_eq : (fun x y => !ltOf impl_Call_63.cf y x) = impl_Call_63.le := by
  funext x y
  unfold impl_Call_63.le
  rw [Bool.eq_iff_iff, Bool.not_eq_true', impl_Call_63.nlt_iff, decide_eq_true_eq]
  omega
def impl_Call_63.f (l0 : List S40) : Option (List S40) := if l0.length ≤ 1000000000 then some (l0.mergeSort impl_Call_63.le) else none
theorem impl_Call_63.calls (P0_ : Nat → Prop) (u : Value) (l0 : List S40) (r : List S40) (w0 w : World) (hB : Below w0.heap.size w0 w) (ho0 : Kd.R k40 40 w w0.heap.size P0_ u l0) (h : impl_Call_63.f l0 = some r) :
    Calls Try.prog 63 #[u, .func (.func 64) #[] #[]] w fun e w' => e = .returned (.tuple #[]) ∧ Kd.R k40 40 w' w0.heap.size (fun k_ => (P0_ k_ ∨ w.heap.size ≤ k_)) u r ∧ Below w0.heap.size w0 w' ∧ Kept w w' (fun k_ => P0_ k_) := by
  unfold impl_Call_63.f at h
  split at h
  case isFalse => cases h
  rename_i hlen
  cases h
  by_cases hz : l0 = []
  · subst hz
    obtain ⟨A, c, rfl⟩ := Kd.R_slice ho0
    refine (AnyF.slices_SortFunc_none LaySfQ A c (.func (.func 64) #[] #[]) w).mono ?_
    rintro e w' ⟨he, rfl⟩
    rw [List.mergeSort_nil]
    exact ⟨he, Kd.R_mono ho0 (fun k hk => .inl hk), hB, Kept.refl _ _⟩
  obtain ⟨hok, inner, ⟨hl, hc⟩, hr⟩ := ho0
  rcases hc with ⟨rfl, hn⟩ | ⟨g, cap, cur, rfl, hg, hh, hn, hm, hs, ht⟩
  · exact absurd (List.eq_nil_of_length_eq_zero hn) hz
  have hsz : (Kd.sz k40) = 2 := rfl
  rw [hsz] at hl hs ht hr
  have hfl : (Go.Sort.flatK impl_Call_63.enc 2 l0.toArray).toList = inner := impl_Call_63.flat_of (by simpa using hl) (fun j hj => by
    have hj' : j < l0.length := by simpa using hj
    have := hr.2 j _ (List.getElem?_eq_getElem hj')
    rw [k40_openM this]
    simp [impl_Call_63.enc, getElem!_pos, hj'])
  have hH : Go.Sort.HoldsK impl_Call_63.enc 2 w g 0 l0.toArray := by
    intro j hj
    have hj2 : j < l0.length * 2 := by simpa using hj
    have e1 : cur[j]? = some ((Go.Sort.flatK impl_Call_63.enc 2 l0.toArray)[j]!) := by
      rw [getElem!_pos _ j hj, ← Array.getElem?_eq_getElem hj, ← Array.getElem?_toList, ← Array.getElem?_toList, hfl, ← ht, List.getElem?_take, if_pos hj2]
    rw [Nat.zero_add]
    exact ⟨by rw [cell_of_row w g _ cur _ (0, 0) hh, e1]; rfl, blk_frozen hh _⟩
  have hlt : g < w.heap.size := by
    rcases Nat.lt_or_ge g w.heap.size with h1 | h1
    · exact h1
    · rw [Array.getElem?_eq_none h1] at hh; cases hh
  have eg : ∀ args w, (callFunc 64 args).run Try.prog w = .ok (.enter 64 args) w := enters_of Try.func64 (by kernel_rfl) rfl
  have hcmp : CmpLays Try.prog 64 #[] impl_Call_63.enc 2 impl_Call_63.cf g 0 l0.toArray.size w := fun m os dk hs x y =>
    ((impl_compareCalls.callsD 10 x.f0 x.f1 y.f0 y.f1 _ (sortWorldK impl_Call_63.enc 2 w g 0 m dk os) (impl_Call_63.cmp_f x y)).mono fun e w' h => ⟨h.1, h.2.grow⟩)
  have hcon := AnyQ.slices_SortFunc_total LaySfQ 2 Try.isAgg40 Try.sizeOf40 impl_Call_63.enc (fun _ => rfl) (fun x v hv => by simp [impl_Call_63.enc] at hv; rcases hv with rfl | rfl <;> rfl) impl_Call_63.cf impl_Call_63.swo 64 #[] g 0 cap l0.toArray w eg hcmp hH hlt (by simp; omega) (fun x y h1 h2 => by
    rw [impl_Call_63.nlt_iff] at h1 h2
    obtain ⟨x0, x1⟩ := x
    obtain ⟨y0, y1⟩ := y
    simp only at h1 h2
    congr 1 <;> omega)
  rw [impl_Call_63.le_eq] at hcon
  change Calls Try.prog 63 _ _ _ at hcon
  refine Calls.mono (by simpa using hcon) ?_
  rintro e w' ⟨he, n, os, hw⟩
  obtain ⟨ys, ey⟩ : ∃ ys, ys = l0.mergeSort impl_Call_63.le := ⟨_, rfl⟩
  have hyl : ys.length = l0.length := by rw [ey, List.length_mergeSort]
  rw [← ey] at hw ⊢
  have hw2 : w' = Go.Sort.grow (Go.Sort.putRow id (Go.Sort.ahead w n) g 0 (Go.Sort.flatK impl_Call_63.enc 2 ys.toArray).toList.toArray) os := by
    rw [hw, Array.toArray_toList]
    rfl
  obtain ⟨p1, p2⟩ := impl_Call_63.put_cells (id : Value → Value) (Go.Sort.flatK impl_Call_63.enc 2 ys.toArray).toList cur (by simp; omega)
  have hll : (Go.Sort.flatK impl_Call_63.enc 2 ys.toArray).toList.length = ys.length * 2 := by simp
  rw [← hyl] at hn
  refine ⟨he, ⟨fun k hk => .inl (hok k (by simpa [Value.ownBlock] using hk)), (Go.Sort.flatK impl_Call_63.enc 2 ys.toArray).toList, ⟨by rw [hll, hsz], .inr ⟨g, cap, _, by rw [hyl], hg, by rw [hw2]; exact impl_Call_63.put_heap hh, hn, hm, by rw [p2, hs, hsz], ?_⟩⟩, ?_, ?_⟩, ?_, ?_⟩
  · rw [hll] at p1
    rw [hsz, p1]
    simp [encs]
  · rw [hll, hsz]
  · intro j p hp
    have hj : j < ys.length := (List.getElem?_eq_some_iff.1 hp).1
    have := impl_Call_63.flat_chunk ys.toArray j (by simpa using hj)
    rw [hsz, this]
    have e3 : ys.toArray[j]! = p := by
      rw [List.getElem?_eq_getElem hj] at hp
      injection hp with hp
      rw [getElem!_pos _ j (by simpa using hj), ← hp]
      simp
    rw [e3]
    exact k40_mkM _ _ _ _
  · rw [hw2]
    refine ⟨hB.os, hB.tape, hB.output, Nat.le_trans hB.size impl_Call_63.put_size, fun k hk => ?_⟩
    have := hB.size
    rw [impl_Call_63.put_other (by omega) (by omega)]
    exact hB.block k hk
  · rw [hw2]
    exact ⟨impl_Call_63.put_size, fun k hk hne => impl_Call_63.put_other hk (fun e => hne (e ▸ hok g (by simp [Value.ownBlock])))⟩


end Go.Proofs.Ytbmhgmnlkeebcaa.PFnExactAddPair
