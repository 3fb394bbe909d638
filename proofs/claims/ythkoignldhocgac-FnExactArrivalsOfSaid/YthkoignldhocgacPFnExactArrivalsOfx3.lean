-- Written by a program of this claim, over the kit's print: the functions that a law reaches, their plain forms and the walks.
import Derived.Test.YthkoignldhocgacPFnExactArrivalsOfx0
import Derived.Test.YthkoignldhocgacPFnExactArrivalsOfx1
import Derived.Test.YthkoignldhocgacPFnExactArrivalsOfx2
namespace Go.Proofs.Ythkoignldhocgac.PFnExactArrivalsOf
open Go.RowKit Go.Proofs.YthkoignldhocgacW.PrintWords Go.Proofs.YthkoignldhocgacW.PrintLast Go.Proofs.YthkoignldhocgacW.PrintMore
attribute [local go_sem] max2_int min2_int max_two min_two max_three min_three max_four min_four   -- for this text's walks alone
set_option linter.unusedVariables false
set_option linter.unusedSimpArgs false

/-! ### spec_ArrivalsOf: function 16 -/
def spec_ArrivalsOf.f (k : Nat) (a0 : Int) (a1 : Int) (l2 : List (S42)) : Option (List Int × Bool) := (spec_deAsked.f a0 a1).bind fun t142 => (if t142 = true then ((spec_deArrivals.f k a0 a1 l2).bind fun bt143 => (some (bt143.1, bt143.2))) else (some (([] : List Int), false)))
theorem spec_ArrivalsOf.mono : ∀ a0 a1 a2 k, LeO (spec_ArrivalsOf.f k a0 a1 a2) (spec_ArrivalsOf.f (k + 1) a0 a1 a2) := by
  intro a0 a1 a2 k
  unfold spec_ArrivalsOf.f
  repeat' first
      | (with_reducible exact spec_deArrivals.mono _ _ _ _)
      | (with_reducible exact LeO.refl _)
      | (with_reducible exact LeO.none _)
      | (with_reducible refine LeO.ite ?_ ?_)
      | (with_reducible refine LeO.bind ?_ (fun _ => ?_))
      | exact spec_deArrivals.mono _ _ _ _
      | exact LeO.none _
      | refine LeO.ite ?_ ?_
      | refine LeO.bind ?_ (fun _ => ?_)
set_option maxHeartbeats 8000000 in
set_option maxRecDepth 100000 in
theorem spec_ArrivalsOf.calls (k : Nat) (a0 : Int) (a1 : Int) (A2 : Option Addr) (c2 : Nat) (l2 : List (S42)) (r1 : List Int) (r2 : Bool) (w : World) (hr2 : Kd.C k42 w A2 l2.length l2) (hc2 : l2.length ≤ c2) (h : spec_ArrivalsOf.f k a0 a1 l2 = some (r1, r2)) :
    Calls Try.prog 16 #[.int .i64 a0, .int .i64 a1, .slice A2 l2.length c2] w fun e w' => ∃ v0_ : Value, e = .returned (.tuple #[v0_, .bool r2]) ∧ Kd.R (Kd.int .i64) 3 w' w.heap.size (fun _ => True) v0_ r1 ∧ Below w.heap.size w w' := by
  have HR2 := Aside0.mk hr2
  have HC2 := Aside0.mk hc2
  clear hr2 hc2
  have HB := Aside0.mk (Below.refl w.heap.size w)
  have H : ((spec_deAsked.f a0 a1).bind fun t142 => (if t142 = true then ((spec_deArrivals.f k a0 a1 l2).bind fun bt143 => (some (bt143.1, bt143.2))) else (some (([] : List Int), false)))) = some (r1, r2) := h
  clear h
  replace H := Option.bind_eq_some_iff.mp H
  obtain ⟨t142, A40, H⟩ := H
  replace H : (if t142 = true then ((spec_deArrivals.f k a0 a1 l2).bind fun bt143 => (some (bt143.1, bt143.2))) else (some (([] : List Int), false))) = some (r1, r2) := H
  have A4 := Aside0.mk A40
  clear A40
  by_cases c5 : t142 = true
  · subst c5
    have H1 : ((spec_deArrivals.f k a0 a1 l2).bind fun bt143 => (some (bt143.1, bt143.2))) = some (r1, r2) := by rw [if_pos rfl] at H; exact H
    clear H
    have H := H1
    clear H1
    replace H := Option.bind_eq_some_iff.mp H
    obtain ⟨⟨t143, t144⟩, A60, H⟩ := H
    replace H : (some (t143, t144)) = some (r1, r2) := H
    have A6 := Aside0.mk A60
    clear A60
    simp only [Option.some.injEq, Prod.mk.injEq] at H
    obtain ⟨rfl, rfl⟩ := H
    go_enter Try.func16, Try.ntmps16
    go_wp2_with (first | ((with_reducible refine gate_callee (f := 28) rfl ?_); refine goesL_ (some 10) rfl rfl Try.func28 (by kernel_rfl) rfl #[.int .i64 a0, .int .i64 a1] rfl (by (try simp only [List.map_toArray, List.map_cons, List.map_nil]); first | done | rfl | (simp only [List.length_drop, List.length_take]; rfl) | (simp; done) | (refine congrArg Value.bool ?_; simp; done) | (refine congrArg (fun z_ => #[Value.bool z_]) ?_; simp; done)) ?_; (with_reducible refine (spec_deAsked.calls a0 a1 true _ A4.out).mono ?_); rintro e w' ⟨rfl, ⟨nd, rfl⟩⟩; refine ⟨_, rfl, ?_⟩) | ((with_reducible refine gate_callee (f := 29) rfl ?_); refine goesL_ (some 15) rfl rfl Try.func29 (by kernel_rfl) rfl #[.int .i64 a0, .int .i64 a1, .slice A2 l2.length c2] rfl (by (try simp only [List.map_toArray, List.map_cons, List.map_nil]); first | done | rfl | (simp only [List.length_drop, List.length_take]; rfl) | (simp; done) | (refine congrArg Value.bool ?_; simp; done) | (refine congrArg (fun z_ => #[Value.bool z_]) ?_; simp; done)) ?_; (with_reducible refine (spec_deArrivals.calls k a0 a1 _ _ l2 t143 t144 _ ?side1 ?side2 A6.out).mono ?_); (case side1 => repeat (first | exact HR2.out | (with_reducible refine Kd.C_alloc ?_ _) | (with_reducible refine Kd.C_drewN ?_ _) | (with_reducible refine Kd.C_drew ?_))); (case side2 => exact HC2.out); rintro e w7 ⟨v145, rfl, ho0, hb⟩; refine ⟨_, rfl, ?_⟩; have n0_ := Aside0.mk (Kd.R_lower ho0 (below_size (by repeat (first | (with_reducible first | exact HB.out | apply below_alloc | apply pw_below_drewN | apply below_drew1) | exact HB.out)))); have n1_ := Aside0.mk (below_step (by repeat (first | (with_reducible first | exact HB.out | apply below_alloc | apply pw_below_drewN | apply below_drew1) | exact HB.out)) hb); clear HB; have HO146 := n0_; have HB := n1_; clear n0_ n1_; (try clear hb); (try clear hb2); (try clear hk); (try clear hi); (try clear ho0)))
    go_ret2
    exact ⟨_, by first | rfl | (simp [errW_none, errW_some] <;> rfl) | (simp [*, errW_none, errW_some] <;> rfl), by (with_reducible repeat (first | apply Kd.R_alloc | apply Kd.R_drewN | apply Kd.R_drew)); exact HO146.out, by repeat (first | (with_reducible first | exact HB.out | apply below_alloc | apply pw_below_drewN | apply below_drew1) | exact HB.out)⟩
  · replace c5 := Bool.eq_false_iff.mpr c5
    subst c5
    have H1 : (some (([] : List Int), false)) = some (r1, r2) := by rw [if_neg (show ¬ (false = true) by decide)] at H; exact H
    clear H
    have H := H1
    clear H1
    simp only [Option.some.injEq, Prod.mk.injEq] at H
    obtain ⟨rfl, rfl⟩ := H
    go_enter Try.func16, Try.ntmps16
    go_wp2_with (first | ((with_reducible refine gate_callee (f := 28) rfl ?_); refine goesL_ (some 10) rfl rfl Try.func28 (by kernel_rfl) rfl #[.int .i64 a0, .int .i64 a1] rfl (by (try simp only [List.map_toArray, List.map_cons, List.map_nil]); first | done | rfl | (simp only [List.length_drop, List.length_take]; rfl) | (simp; done) | (refine congrArg Value.bool ?_; simp; done) | (refine congrArg (fun z_ => #[Value.bool z_]) ?_; simp; done)) ?_; (with_reducible refine (spec_deAsked.calls a0 a1 false _ A4.out).mono ?_); rintro e w' ⟨rfl, ⟨nd, rfl⟩⟩; refine ⟨_, rfl, ?_⟩))
    go_ret2
    exact ⟨_, by first | rfl | (simp [errW_none, errW_some] <;> rfl) | (simp [*, errW_none, errW_some] <;> rfl), by first | exact Kd.R_nil _ _ _ _ _ | exact Kd.N_nil _ _ _ _ _ | exact Kd.V_nil _ _ _ _ _ | exact Kd.Q_nil _ _ _ _ _ | exact Kd.S_nil _ _ _ _ _, by repeat (first | (with_reducible first | exact HB.out | apply below_alloc | apply pw_below_drewN | apply below_drew1) | exact HB.out)⟩

/-! ### impl_within: function 36 -/
def impl_within.f (a0 : Int) (a1 : Int) (a2 : Int) : Option (Bool) := if a1 ≤ a0 then (some (decide (a0 ≤ a2))) else (some false)
set_option maxHeartbeats 8000000 in
set_option maxRecDepth 100000 in
theorem impl_within.calls (a0 : Int) (a1 : Int) (a2 : Int) (r : Bool) (w : World) (h : impl_within.f a0 a1 a2 = some r) :
    Calls Try.prog 36 #[.int .i64 a0, .int .i64 a1, .int .i64 a2] w fun e w' => e = .returned (.bool r) ∧ Drawn0 w w' := by
  have H : (if a1 ≤ a0 then (some (decide (a0 ≤ a2))) else (some false)) = some r := h
  clear h
  by_cases c4 : a1 ≤ a0
  · rw [if_pos c4] at H
    have c4b0 : decide (a1 ≤ a0) = true := decide_eq_true c4
    clear c4
    obtain rfl := Option.some.inj H
    go_enter Try.func36, Try.ntmps36
    go_wp2
    go_ret
    exact ⟨by first | rfl | (simp; done) | (simp [*]; done), by repeat (first | exact Drawn0.refl _ | apply Drawn0.step)⟩
  · rw [if_neg c4] at H
    have c4b0 : decide (a1 ≤ a0) = false := decide_eq_false c4
    clear c4
    obtain rfl := Option.some.inj H
    go_enter Try.func36, Try.ntmps36
    go_wp2
    go_ret
    exact ⟨by first | rfl | (simp; done) | (simp [*]; done), by repeat (first | exact Drawn0.refl _ | apply Drawn0.step)⟩

/-! ### bits_Mul32: function 56 -/
def bits_Mul32.f (a0 : Int) (a1 : Int) : Option (Int × Int) := some (((IntKind.u64.wrap ((IntKind.u64.wrap (a0)) * (IntKind.u64.wrap (a1)))) / 4294967296) % 4294967296, (IntKind.u64.wrap ((IntKind.u64.wrap (a0)) * (IntKind.u64.wrap (a1)))) % 4294967296)
set_option maxHeartbeats 8000000 in
set_option maxRecDepth 100000 in
theorem bits_Mul32.calls (a0 : Int) (a1 : Int) (r1 : Int) (r2 : Int) (w : World) (h : bits_Mul32.f a0 a1 = some (r1, r2)) :
    Calls Try.prog 56 #[.int .u32 a0, .int .u32 a1] w fun e w' => e = .returned (.tuple #[.int .u32 r1, .int .u32 r2]) ∧ Drawn0 w w' := by
  have H : (some (((IntKind.u64.wrap ((IntKind.u64.wrap (a0)) * (IntKind.u64.wrap (a1)))) / 4294967296) % 4294967296, (IntKind.u64.wrap ((IntKind.u64.wrap (a0)) * (IntKind.u64.wrap (a1)))) % 4294967296)) = some (r1, r2) := h
  clear h
  simp only [Option.some.injEq, Prod.mk.injEq] at H
  obtain ⟨rfl, rfl⟩ := H
  go_enter Try.func56, Try.ntmps56
  go_wp2
  go_ret2
  exact ⟨by first | rfl | (simp; done) | (simp [*]; done), by repeat (first | exact Drawn0.refl _ | apply Drawn0.step)⟩

/-! ### bits_Mul64: function 57 -/
def bits_Mul64.f (a0 : Int) (a1 : Int) : Option (Int × Int) := some (IntKind.u64.wrap ((IntKind.u64.wrap ((IntKind.u64.wrap ((a0 / 4294967296) * (a1 / 4294967296))) + ((IntKind.u64.wrap ((IntKind.u64.wrap ((a0 / 4294967296) * (Go.bits .and .u64 a1 4294967295))) + ((IntKind.u64.wrap ((Go.bits .and .u64 a0 4294967295) * (Go.bits .and .u64 a1 4294967295))) / 4294967296))) / 4294967296))) + ((IntKind.u64.wrap ((Go.bits .and .u64 (IntKind.u64.wrap ((IntKind.u64.wrap ((a0 / 4294967296) * (Go.bits .and .u64 a1 4294967295))) + ((IntKind.u64.wrap ((Go.bits .and .u64 a0 4294967295) * (Go.bits .and .u64 a1 4294967295))) / 4294967296))) 4294967295) + (IntKind.u64.wrap ((Go.bits .and .u64 a0 4294967295) * (a1 / 4294967296))))) / 4294967296)), IntKind.u64.wrap (a0 * a1))
set_option maxHeartbeats 8000000 in
set_option maxRecDepth 100000 in
theorem bits_Mul64.calls (a0 : Int) (a1 : Int) (r1 : Int) (r2 : Int) (w : World) (h : bits_Mul64.f a0 a1 = some (r1, r2)) :
    Calls Try.prog 57 #[.int .u64 a0, .int .u64 a1] w fun e w' => e = .returned (.tuple #[.int .u64 r1, .int .u64 r2]) ∧ Drawn0 w w' := by
  have H : (some (IntKind.u64.wrap ((IntKind.u64.wrap ((IntKind.u64.wrap ((a0 / 4294967296) * (a1 / 4294967296))) + ((IntKind.u64.wrap ((IntKind.u64.wrap ((a0 / 4294967296) * (Go.bits .and .u64 a1 4294967295))) + ((IntKind.u64.wrap ((Go.bits .and .u64 a0 4294967295) * (Go.bits .and .u64 a1 4294967295))) / 4294967296))) / 4294967296))) + ((IntKind.u64.wrap ((Go.bits .and .u64 (IntKind.u64.wrap ((IntKind.u64.wrap ((a0 / 4294967296) * (Go.bits .and .u64 a1 4294967295))) + ((IntKind.u64.wrap ((Go.bits .and .u64 a0 4294967295) * (Go.bits .and .u64 a1 4294967295))) / 4294967296))) 4294967295) + (IntKind.u64.wrap ((Go.bits .and .u64 a0 4294967295) * (a1 / 4294967296))))) / 4294967296)), IntKind.u64.wrap (a0 * a1))) = some (r1, r2) := h
  clear h
  simp only [Option.some.injEq, Prod.mk.injEq] at H
  obtain ⟨rfl, rfl⟩ := H
  go_enter Try.func57, Try.ntmps57
  go_wp2
  go_ret2
  exact ⟨by first | rfl | (simp; done) | (simp [*]; done), by repeat (first | exact Drawn0.refl _ | apply Drawn0.step)⟩

/-! ### bits_Mul: function 55 -/
def bits_Mul.f (a0 : Int) (a1 : Int) : Option (Int × Int) := (bits_Mul64.f a0 a1).bind fun bt147 => (some (bt147.1, bt147.2))
set_option maxHeartbeats 8000000 in
set_option maxRecDepth 100000 in
theorem bits_Mul.calls (a0 : Int) (a1 : Int) (r1 : Int) (r2 : Int) (w : World) (h : bits_Mul.f a0 a1 = some (r1, r2)) :
    Calls Try.prog 55 #[.int .u64 a0, .int .u64 a1] w fun e w' => e = .returned (.tuple #[.int .u64 r1, .int .u64 r2]) ∧ Drawn0 w w' := by
  have H : ((bits_Mul64.f a0 a1).bind fun bt147 => (some (bt147.1, bt147.2))) = some (r1, r2) := h
  clear h
  replace H := Option.bind_eq_some_iff.mp H
  obtain ⟨⟨t147, t148⟩, A30, H⟩ := H
  replace H : (some (t147, t148)) = some (r1, r2) := H
  have A3 := Aside0.mk A30
  clear A30
  simp only [Option.some.injEq, Prod.mk.injEq] at H
  obtain ⟨rfl, rfl⟩ := H
  go_enter Try.func55, Try.ntmps55
  go_wp2_with (first | ((with_reducible refine gate_callee (f := 57) rfl ?_); refine goesL_ (some 25) rfl rfl Try.func57 (by kernel_rfl) rfl #[.int .u64 a0, .int .u64 a1] rfl (by (try simp only [List.map_toArray, List.map_cons, List.map_nil]); first | done | rfl | (simp only [List.length_drop, List.length_take]; rfl) | (simp; done) | (refine congrArg Value.bool ?_; simp; done) | (refine congrArg (fun z_ => #[Value.bool z_]) ?_; simp; done)) ?_; (with_reducible refine (bits_Mul64.calls a0 a1 t147 t148 _ A3.out).mono ?_); rintro e w' ⟨rfl, ⟨nd, rfl⟩⟩; refine ⟨_, rfl, ?_⟩))
  go_ret2
  exact ⟨by first | rfl | (simp; done) | (simp [*]; done), by repeat (first | exact Drawn0.refl _ | apply Drawn0.step)⟩

/-! ### slices_Repeat_int_int: function 47 -/
/-- One element, repeated. -/
def slices_Repeat_int_int.f (l0 : List Int) (n : Int) : Option (List Int) := if l0.length = 1 ∧ 0 ≤ n ∧ n ≤ 100 then some (List.replicate n.toNat (rd l0 0)) else none
theorem slices_Repeat_int_int.mul_all : ∀ n ∈ List.range 101, bits_Mul.f 1 (n : Int) = some (0, (n : Int)) := by decide +kernel
theorem slices_Repeat_int_int.mul (n : Int) (h0 : 0 ≤ n) (h1 : n ≤ 100) (w : World) : Calls Try.prog 55 #[.int .u64 1, .int .u64 n] w fun e w' => e = .returned (.tuple #[.int .u64 0, .int .u64 n]) ∧ Drawn0 w w' := by
  refine (bits_Mul.calls 1 n 0 n w ?_).mono (fun _ _ h => h)
  have := slices_Repeat_int_int.mul_all n.toNat (by rw [List.mem_range]; omega)
  rwa [Int.toNat_of_nonneg h0] at this
theorem slices_Repeat_int_int.src {w w1 : World} {ad : Addr} {x : Value} {m : Nat} (hx : w.cell? ad = some x) (hb : Below w.heap.size w w1) : ∀ j v, (List.replicate (Nat.min 1 m) x)[j]? = some v → w1.cell? (ad.add j) = some v := by
  intro j v hj
  rw [List.getElem?_replicate] at hj
  split at hj
  · rename_i h
    have hle : Nat.min 1 m ≤ 1 := Nat.min_le_left _ _
    have : j = 0 := by omega
    subst this
    injection hj with hj
    subst hj
    have e : ad.add 0 = ad := by cases ad; rfl
    rw [e, hb.cell (World.block_lt_of_cell? w _ hx), hx]
  · cases hj
theorem slices_Repeat_int_int.src2 {w : World} {g t m k : Nat} {cur : List Value} {x : Value} (hg : w.heap[g]? = some (.cells cur.toArray t (0, 0))) (ht : cur.take k = List.replicate k x) (hk : k ≤ cur.length) : ∀ j v, (List.replicate (Nat.min k m) x)[j]? = some v → w.cell? ((⟨g, 0, none⟩ : Addr).add j) = some v := by
  intro j v hj
  rw [List.getElem?_replicate] at hj
  split at hj
  · rename_i h
    have hle : Nat.min k m ≤ k := Nat.min_le_left _ _
    have hjk : j < k := by omega
    have e : cur[j]? = some x := by
      have h1 : (cur.take k)[j]? = some x := by rw [ht, List.getElem?_replicate, if_pos hjk]
      rwa [List.getElem?_take, if_pos hjk] at h1
    injection hj with hj
    subst hj
    rw [add_at, Nat.zero_add]
    simp [World.cell?, hg, e]
  · cases hj
theorem slices_Repeat_int_int.spl {x : Value} {cur : List Value} {k j : Nat} (h : cur.take k = List.replicate k x) (hl : k + j ≤ cur.length) : (splice cur k (List.replicate j x)).take (k + j) = List.replicate (k + j) x ∧ (splice cur k (List.replicate j x)).length = cur.length := by
  refine ⟨?_, length_splice _ _ _ (by simpa using hl)⟩
  unfold splice
  rw [h, ← List.append_assoc, List.replicate_append_replicate, List.take_append_of_le_length (by simp), List.take_of_length_le (by simp)]
theorem slices_Repeat_int_int.own_rep {w wr : World} {g cap k : Nat} {c : Int} (hb : w.heap.size ≤ g) (hk : k ≤ cap) (hm : cap ≤ maxLen) {cu : List Value} (hl : cu.length = cap) (ht : cu.take k = List.replicate k (.int .i64 c)) (hg : wr.heap[g]? = some (.cells cu.toArray 3 (0, 0))) :
    Kd.R (Kd.int .i64) 3 wr w.heap.size (fun _ => True) (.slice (some ⟨g, 0, none⟩) k cap) (List.replicate k c) := by
  refine ⟨fun _ _ => trivial, encs (Value.int .i64) (List.replicate k c), ⟨by simp [encs, Kd.int, Kd.scalar], .inr ⟨g, cap, cu.toArray, by simp, hb, hg, by simpa using hk, hm, by simp [hl, Kd.int, Kd.scalar], ?_⟩⟩, Kd.reps_scalar _⟩
  simpa [encs, Kd.int, Kd.scalar] using ht
theorem slices_Repeat_int_int.own_form {w1 : World} {base e n : Nat} {v : Value} {xs : List Value} {W : World} (h : (v = .slice none 0 0 ∧ n = 0) ∨ ∃ g cap cur, v = .slice (some ⟨g, 0, none⟩) n cap ∧ base ≤ g ∧ w1.heap[g]? = some (.cells cur e (0, 0)) ∧ n ≤ cap ∧ cap ≤ maxLen ∧ cur.size = cap * 1 ∧ cur.toList.take (n * 1) = xs)
    (hat : ∃ b, v.ownBlock = some b ∧ W.heap.size ≤ b) : ∃ g cap cur, v = .slice (some ⟨g, 0, none⟩) n cap ∧ base ≤ g ∧ w1.heap[g]? = some (.cells cur e (0, 0)) ∧ n ≤ cap ∧ cap ≤ maxLen ∧ cur.size = cap := by
  rcases h with ⟨rfl, _⟩ | ⟨g, cap, cur, h1, h2, h3, h4, h5, h6, _⟩
  · obtain ⟨b, hb, _⟩ := hat
    simp [Value.ownBlock] at hb
  · exact ⟨g, cap, cur, h1, h2, h3, h4, h5, by omega⟩
theorem slices_Repeat_int_int.calls (A0 : Option Addr) (c0 : Nat) (l0 : List Int) (a1 : Int) (r : List Int) (w : World) (hr0 : Kd.C (Kd.int .i64) w A0 l0.length l0) (hc0 : l0.length ≤ c0) (h : slices_Repeat_int_int.f l0 a1 = some r) :
    Calls Try.prog 47 #[.slice A0 l0.length c0, .int .i64 a1] w fun e w' => ∃ v0_ : Value, e = .returned (v0_) ∧ Kd.R (Kd.int .i64) 3 w' w.heap.size (fun _ => True) v0_ r ∧ Below w.heap.size w w' := by
  unfold slices_Repeat_int_int.f at h
  split at h
  case isFalse => cases h
  rename_i hq
  obtain ⟨hl, h0, h1⟩ := hq
  obtain rfl := Option.some.inj h
  clear h
  obtain ⟨c, rfl⟩ : ∃ c, l0 = [c] := by
    match l0, hl with
    | [c], _ => exact ⟨c, rfl⟩
  obtain ⟨ad, e0, hcell⟩ := Kd.at_int hr0 0 (by omega) (by simp)
  subst e0
  have hmul := slices_Repeat_int_int.mul a1 h0 h1
  have hx : w.cell? ad = some (.int .i64 c) := by cases ad; exact hcell
  clear hr0 hcell
  have HH := Aside0.mk hc0
  clear hc0
  obtain ⟨m, rfl⟩ := Int.eq_ofNat_of_zero_le h0
  have HM : Aside0 (m ≤ 100) := ⟨by omega⟩
  have hgoal : Aside0 (List.replicate ((m : Nat) : Int).toNat (rd [c] 0) = List.replicate m c) := ⟨rfl⟩
  rw [hgoal.out]
  clear hgoal hl
  go_enter Try.func47, Try.ntmps47
  go_wp2_with (first
    | (go_at_call 55; refine (hmul _).mono ?_; rintro e w' ⟨rfl, ⟨nd, rfl⟩⟩)
    | ((with_reducible refine gate_dst (N := 30) rfl ?_); refine Kd.R_make (w0 := w) (Kd.int .i64) w.heap.size 3 rfl (N := 30) rfl 33 _ _ rfl (m : Int) rfl rfl Try.underlying33 (.int .i64 0) 8 info3 rfl (by decide) (by omega) 0 (ok := fun _ => True) (okp := fun _ => True) rfl (fun _ hk => hk) trivial (by omega) (by have := HM.out; simp; omega) (pw_below_drewN (Below.refl _ _) _) (by simp) ?_; intro v1 w1 hR hB hg_ hat; obtain ⟨_, inner, ⟨hil, hown⟩, _⟩ := hR; obtain ⟨g, cap, cur, rfl, hbg, hgc, hcap, hcm, hcs⟩ := slices_Repeat_int_int.own_form hown hat; simp only [List.length_replicate, Int.toNat_natCast] at hcap ⊢; have HG := Aside0.mk hgc; have HC := Aside0.mk (And.intro hcap (And.intro hcm (And.intro hcs hbg))); have HB := Aside0.mk hB; clear hgc hcap hcm hcs hbg hB hg_ hat hil hown)
    | ((with_reducible refine gate_builtin (b := .copy) (xs := #[.tmp 31, .tmp 32]) rfl ?_); go_must (refine wpList_copy_splice rfl (.tmp 31) (.tmp 32) 33 33 rfl 3 Try.underlying33 (by kernel_rfl) (some ⟨g, 0, none⟩) (some ad) m cap 1 c0 rfl rfl g 0 cur.toList 3 (by rw [Array.toArray_toList]; exact HG.out) (List.replicate (Nat.min 1 m) (.int .i64 c)) (by simp) (fun _ => ⟨rfl, ad, rfl, slices_Repeat_int_int.src hx HB.out⟩) (by have := HC.out; have h3 : Nat.min 1 m ≤ m := Nat.min_le_right _ _; simp only [List.length_replicate, Array.length_toList]; omega) (by intro v hv; rw [List.eq_of_mem_replicate hv]; rfl) w.heap.size w HB.out HC.out.2.2.2 ?_); intro w3 hg3 hb3; have HG3 := Aside0.mk hg3.out; have HB3 := Aside0.mk hb3; clear hg3 hb3 HG HB))
  have HS := Aside0.mk (slices_Repeat_int_int.spl (x := .int .i64 c) (cur := cur.toList) (k := 0) (j := Nat.min 1 m) rfl (by have := HC.out; have h3 : Nat.min 1 m ≤ m := Nat.min_le_right _ _; simp only [Array.length_toList]; omega))
  go_loopg [8] m (fun gg u8 wr => ∃ (k : Nat) (cu : List Value), u8 = .int .i64 k ∧ Aside0 (k ≤ m ∧ (0 < m → 0 < k) ∧ m - k ≤ gg) ∧ Aside0 (cu.length = cap ∧ cu.take k = List.replicate k (.int .i64 c)) ∧ Aside0 (wr.heap[g]? = some (.cells cu.toArray 3 (0, 0))) ∧ Aside0 (Below w.heap.size w wr))
  case atStart =>
    refine ⟨Nat.min 1 m, _, by first | rfl | simp [goInt], ⟨by have h3 : Nat.min 1 m ≤ m := Nat.min_le_right _ _; refine ⟨h3, fun h => ?_, by omega⟩; show 0 < min 1 m; omega⟩, ⟨by rw [HS.out.2, Array.length_toList]; exact HC.out.2.2.1, by have := HS.out.1; rwa [Nat.zero_add] at this⟩, HG3, HB3⟩
  case round =>
    obtain ⟨k, cu, rfl, HK, HT, HG, HB⟩ := hrel
    by_cases hkm : k < m
    · have d1 : decide (k < m) = true := decide_eq_true hkm
      have d2 : decide ((k : Int) < (m : Int)) = true := decide_eq_true (by omega)
      have HN := Aside0.mk hkm
      have hne : ¬ (cap = k) := fun e => by have := HC.out.1; omega
      have hle : k ≤ cap := by have := HC.out.1; omega
      have hle2 : k ≤ m := Nat.le_of_lt hkm
      have HS2 := Aside0.mk (slices_Repeat_int_int.spl (j := Nat.min k (m - k)) HT.out.2 (by have := HC.out; have := HT.out.1; have h3 : Nat.min k (m - k) ≤ m - k := Nat.min_le_right _ _; omega))
      have HW : Aside0 (IntKind.i64.wrap ((k : Int) + ((Nat.min k (m - k) : Nat) : Int)) = ((k + Nat.min k (m - k) : Nat) : Int)) := ⟨by have h3 : Nat.min k (m - k) ≤ m - k := Nat.min_le_right _ _; have h4 := HM.out; simp [IntKind.wrap, IntKind.bits, IntKind.signed]; omega⟩
      clear hkm
      go_wp2
      go_region_law (refine step_copy_splice rfl (.tmp 41) (.tmp 44) 33 33 rfl 3 Try.underlying33 (by kernel_rfl) (some ⟨g, k, none⟩) (some ⟨g, 0, none⟩) (m - k) (cap - k) k cap (by simp [Act.eval, Act.put, hne]) (by simp [Act.eval, Act.put]) g k cu 3 HG.out (List.replicate (Nat.min k (m - k)) (.int .i64 c)) (by simp) (fun _ => ⟨rfl, _, rfl, slices_Repeat_int_int.src2 HG.out HT.out.2 (by have := HT.out.1; omega)⟩) (by have := HC.out; have := HT.out.1; have h3 : Nat.min k (m - k) ≤ m - k := Nat.min_le_right _ _; simp only [List.length_replicate]; omega) (by intro v hv; rw [List.eq_of_mem_replicate hv]; rfl) w.heap.size w (by first | exact HB.out | exact below_drew HB.out | exact pw_below_drewN HB.out _) HC.out.2.2.2 ?_; intro w4 hg4 hb4)
      go_wp2
      go_roundg (m - (k + Nat.min k (m - k)))
      case measure => have h1 := HK.out; have h2 := HN.out; show m - (k + min k (m - k)) < _; omega
      case rel =>
        refine ⟨k + Nat.min k (m - k), _, by first | exact congrArg (Value.int .i64) HW.out | rfl | (simp [goInt]; done), ⟨by have h1 := HK.out; have h2 := HN.out; show k + min k (m - k) ≤ m ∧ (0 < m → 0 < k + min k (m - k)) ∧ m - (k + min k (m - k)) ≤ m - (k + min k (m - k)); omega⟩, ⟨by rw [HS2.out.2]; exact HT.out.1, HS2.out.1⟩, ⟨hg4.out⟩, ⟨hb4⟩⟩
    · have d1 : decide (k < m) = false := decide_eq_false hkm
      have d2 : decide ((k : Int) < (m : Int)) = false := decide_eq_false (by omega)
      have hk2 : k = m := by have := HK.out.1; omega
      subst hk2
      clear hkm
      go_wp2
      go_ret
      exact ⟨_, rfl, slices_Repeat_int_int.own_rep HC.out.2.2.2 HC.out.1 HC.out.2.1 HT.out.1 HT.out.2 HG.out, HB.out⟩


/-! ### impl_isMinute: function 48 -/
def impl_isMinute.f (a0 : Int) : Option (Bool) := (impl_within.f a0 0 60).bind fun t149 => (some t149)
set_option maxHeartbeats 8000000 in
set_option maxRecDepth 100000 in
theorem impl_isMinute.calls (a0 : Int) (r : Bool) (w : World) (h : impl_isMinute.f a0 = some r) :
    Calls Try.prog 48 #[.int .i64 a0] w fun e w' => e = .returned (.bool r) ∧ Drawn0 w w' := by
  have H : ((impl_within.f a0 0 60).bind fun t149 => (some t149)) = some r := h
  clear h
  replace H := Option.bind_eq_some_iff.mp H
  obtain ⟨t149, A20, H⟩ := H
  replace H : (some t149) = some r := H
  have A2 := Aside0.mk A20
  clear A20
  obtain rfl := Option.some.inj H
  go_enter Try.func48, Try.ntmps48
  go_wp2_with (first | ((with_reducible refine gate_callee (f := 36) rfl ?_); refine goesL_ (some 4) rfl rfl Try.func36 (by kernel_rfl) rfl #[.int .i64 a0, .int .i64 0, .int .i64 60] rfl (by (try simp only [List.map_toArray, List.map_cons, List.map_nil]); first | done | rfl | (simp only [List.length_drop, List.length_take]; rfl) | (simp; done) | (refine congrArg Value.bool ?_; simp; done) | (refine congrArg (fun z_ => #[Value.bool z_]) ?_; simp; done)) ?_; (with_reducible refine (impl_within.calls a0 0 60 t149 _ A2.out).mono ?_); rintro e w' ⟨rfl, ⟨nd, rfl⟩⟩; refine ⟨_, rfl, ?_⟩))
  go_ret
  exact ⟨by first | rfl | (simp; done) | (simp [*]; done), by repeat (first | exact Drawn0.refl _ | apply Drawn0.step)⟩

-- NOT PRINTED: function 37 (impl_Send_37)

-- NOT PRINTED: function 49 (impl_Send_49)

/-! ### impl_arrivals_1: function 50 -/
/-- The closure: is it of the same person and minute? -/
def impl_arrivals_1.p (x0 x2 : Int) (c : S42) : Bool := decide (c.f0 = x0) && decide (c.f2 = x2)
theorem impl_arrivals_1.clos (B : Nat) (x0 x1 x2 : Int) (c : S42) (w : World) (hB0 : w.cell? ⟨B, 0, none⟩ = some (.int .i64 x0)) (hB2 : w.cell? ⟨B, 2, none⟩ = some (.int .i64 x2)) :
    Calls Try.prog 50 #[.agg #[.int .i64 c.f0, .int .i64 c.f1, .int .i64 c.f2], .pointer (some ⟨B, 0, none⟩)] w fun e w' => e = .returned (.bool (impl_arrivals_1.p x0 x2 c)) ∧ Below w.heap.size w w' := by
  have hBW : B < w.heap.size := World.block_lt_of_cell? w _ hB0
  have hne : B ≠ w.heap.size := by omega
  have hr : Aside0 (impl_arrivals_1.p x0 x2 c = (decide (c.f0 = x0) && decide (c.f2 = x2))) := ⟨rfl⟩
  generalize impl_arrivals_1.p x0 x2 c = r at hr ⊢
  by_cases h0 : c.f0 = x0
  · have e0 : (c.f0 == x0) = true := beq_iff_eq.mpr h0
    have H0 := Aside0.mk h0
    clear h0
    by_cases h2 : c.f2 = x2
    · have e2 : (c.f2 == x2) = true := beq_iff_eq.mpr h2
      have H2 := Aside0.mk h2
      clear h2
      go_enter Try.func50, Try.ntmps50
      go_wp2
      go_ret
      exact ⟨by rw [hr.out]; simp [H0.out, H2.out], by repeat (first | exact Below.refl _ _ | apply below_alloc | apply pw_below_drewN)⟩
    · have e2 : (c.f2 == x2) = false := by simp [h2]
      have H2 := Aside0.mk h2
      clear h2
      go_enter Try.func50, Try.ntmps50
      go_wp2
      go_ret
      exact ⟨by rw [hr.out]; simp [H0.out, H2.out], by repeat (first | exact Below.refl _ _ | apply below_alloc | apply pw_below_drewN)⟩
  · have e0 : (c.f0 == x0) = false := by simp [h0]
    have H0 := Aside0.mk h0
    clear h0
    go_enter Try.func50, Try.ntmps50
    go_wp2
    go_ret
    exact ⟨by rw [hr.out]; simp [H0.out], by repeat (first | exact Below.refl _ _ | apply below_alloc | apply pw_below_drewN)⟩
theorem impl_arrivals_1.ret_int {k : IntKind} {a b : Int} (h : a = b) : Ending.returned (.int k a) = .returned (.int k b) := by rw [h]
open Go.Proofs.YthkoignldhocgacW.Help in
set_option maxHeartbeats 2000000 in
theorem impl_arrivals_1.indexFunc (g : Nat) (lb : Array Value) (p : S42 → Bool) (A1 : Option Addr) (c1 : Nat) (l1 : List S42) (w : World) (hr : Kd.C k42 w A1 l1.length l1)
    (eg : ∀ args w, (callFunc g args).run Try.prog w = .ok (.enter g args) w)
    (hp : ∀ (W : World) (x : S42), Below w.heap.size w W → Calls Try.prog g (#[.agg #[.int .i64 x.f0, .int .i64 x.f1, .int .i64 x.f2]] ++ lb) W fun e W' => e = .returned (.bool (p x)) ∧ Below w.heap.size w W') :
    Calls Try.prog 37 #[.slice A1 l1.length c1, .func (.func g) #[] lb] w fun e w' => e = .returned (.int .i64 (fi p l1)) ∧ Below w.heap.size w w' := by
  have hu := Try.underlying42
  have hlen : l1.length ≤ 9223372036854775807 := hr.2.1
  have HR := Aside0.mk hr
  have HP := Aside0.mk hp
  clear hr hp
  go_enter Try.func37, Try.ntmps37
  go_wp2
  go_loopg [5, 8] l1.length (fun gg _ s8 wr => ∃ x : Int, s8 = .int .i64 x ∧ Aside0 (0 ≤ x ∧ x ≤ (l1.length : Int) ∧ l1.length - x.toNat ≤ gg) ∧ Aside0 (Below w.heap.size w wr) ∧ Aside0 (∀ j, j < x.toNat → p (l1.getD j z42) = false))
  case atStart => exact ⟨0, rfl, ⟨by omega, by omega, by simp⟩, ⟨Below.refl _ w⟩, ⟨fun j hj => absurd hj (Nat.not_lt_zero _)⟩⟩
  case round =>
    obtain ⟨x, rfl, HX, BW, A⟩ := hrel
    by_cases hlt : x < (l1.length : Int)
    · have p0 : 0 ≤ x := HX.out.1
      obtain ⟨ad, e, hx0, hx1, hx2⟩ := at_T42 HR.out x p0 hlt
      subst e
      replace hx0 := (BW.out.cell (World.block_lt_of_cell? w _ hx0)).trans hx0
      replace hx1 := (BW.out.cell (World.block_lt_of_cell? w _ hx1)).trans hx1
      replace hx2 := (BW.out.cell (World.block_lt_of_cell? w _ hx2)).trans hx2
      have hcall := HP.out wr (rd_T42 l1 x) BW.out
      have B : Aside0 (l1.getD x.toNat z42 = rd_T42 l1 x) := ⟨rfl⟩
      have HL := Aside0.mk hlt
      have d1 : decide (x < (l1.length : Int)) = true := decide_eq_true hlt
      have d0 : decide (0 ≤ x) = true := decide_eq_true p0
      replace p0 := eq_true p0
      replace hlt := eq_true hlt
      clear HP HR
      generalize rd_T42 l1 x = y at hcall hx0 hx1 hx2 B
      cases hq : p y with
      | true =>
        rw [hq] at hcall
        have HQ := Aside0.mk hq
        clear hq
        go_wp2_with fail
        refine hcall.mono ?_
        rintro e w' ⟨rfl, hb'⟩
        go_wp2
        go_ret
        exact ⟨impl_arrivals_1.ret_int (by rw [fi_hit z42 (k := x.toNat) (by have := HL.out; have := HX.out; omega) (by rw [B.out]; exact HQ.out) A.out, Int.toNat_of_nonneg HX.out.1]), hb'⟩
      | false =>
        rw [hq] at hcall
        have HQ := Aside0.mk hq
        clear hq
        go_wp2_with fail
        refine hcall.mono ?_
        rintro e w' ⟨rfl, hb'⟩
        go_wp2
        go_roundg (l1.length - (x.toNat + 1))
        case measure => have := HL.out; have := HX.out; omega
        case rel =>
          have h1 := HL.out
          have h2 := HX.out
          refine ⟨x + 1, by first | rfl | (rw [show wrap64 (x + 1) = x + 1 by unfold wrap64; omega]), ⟨by omega, by omega, by omega⟩, ⟨hb'⟩, ⟨fun j hj => ?_⟩⟩
          by_cases e : j = x.toNat
          · rw [e, B.out]; exact HQ.out
          · exact A.out j (by omega)
    · have HL := Aside0.mk hlt
      have d1 : decide (x < (l1.length : Int)) = false := decide_eq_false hlt
      clear hlt
      go_wp2
      go_ret
      exact ⟨impl_arrivals_1.ret_int (by rw [fi_miss z42 (fun j hj => A.out j (by have := HL.out; have := HX.out; omega))]), BW.out⟩
open Go.Proofs.YthkoignldhocgacW.Help in
theorem impl_arrivals_1.containsFunc (g : Nat) (lb : Array Value) (p : S42 → Bool) (A1 : Option Addr) (c1 : Nat) (l1 : List S42) (w : World) (hr : Kd.C k42 w A1 l1.length l1)
    (eg : ∀ args w, (callFunc g args).run Try.prog w = .ok (.enter g args) w)
    (hp : ∀ (W : World) (x : S42), Below w.heap.size w W → Calls Try.prog g (#[.agg #[.int .i64 x.f0, .int .i64 x.f1, .int .i64 x.f2]] ++ lb) W fun e W' => e = .returned (.bool (p x)) ∧ Below w.heap.size w W') :
    Calls Try.prog 49 #[.slice A1 l1.length c1, .func (.func g) #[] lb] w fun e w' => e = .returned (.bool (l1.any p)) ∧ Below w.heap.size w w' := by
  have hcon := impl_arrivals_1.indexFunc g lb p A1 c1 l1 w hr eg hp
  have e1 : Aside0 (decide (fi p l1 ≥ 0) = l1.any p) := ⟨fi_ge p l1⟩
  generalize fi p l1 = r at hcon e1
  clear hr eg hp
  go_enter Try.func49, Try.ntmps49
  go_wp2_with (go_at_call 37; refine hcon.mono ?_; rintro e w' ⟨rfl, hb'⟩)
  go_ret
  exact ⟨by rw [← e1.out]; rfl, hb'⟩
def impl_arrivals_1.f (l0 : List S42) (x0 x1 x2 : Int) : Option Bool := some (l0.any (impl_arrivals_1.p x0 x2))
theorem impl_arrivals_1.calls (A0 : Option Addr) (c0 : Nat) (l0 : List S42) (B : Nat) (x0 x1 x2 : Int) (r : Bool) (w : World) (hr0 : Kd.C k42 w A0 l0.length l0) (hc0 : l0.length ≤ c0) (hB : w.heap[B]? = some (.cells #[.int .i64 x0, .int .i64 x1, .int .i64 x2] 42 (0, 0))) (h : impl_arrivals_1.f l0 x0 x1 x2 = some r) :
    Calls Try.prog 49 #[.slice A0 l0.length c0, .func (.func 50) #[] #[.pointer (some ⟨B, 0, none⟩)]] w fun e w' => e = .returned (.bool r) ∧ Below w.heap.size w w' := by
  have eg : ∀ args w, (callFunc 50 args).run Try.prog w = .ok (.enter 50 args) w := Go.Proofs.enters_of Try.func50 (by kernel_rfl) rfl
  obtain rfl := Option.some.inj h
  have h0 : w.cell? ⟨B, 0, none⟩ = some (.int .i64 x0) := (blk_cell hB 0).trans rfl
  have h2 : w.cell? ⟨B, 2, none⟩ = some (.int .i64 x2) := (blk_cell hB 2).trans rfl
  have hlt : B < w.heap.size := World.block_lt_of_cell? w _ h0
  exact impl_arrivals_1.containsFunc _ _ _ A0 c0 l0 w hr0 eg (fun W' x hb' => (impl_arrivals_1.clos B x0 x1 x2 x W' ((hb'.cell (p := ⟨B, 0, none⟩) hlt).trans h0) ((hb'.cell (p := ⟨B, 2, none⟩) hlt).trans h2)).mono fun e w2 ⟨he, hb2⟩ => ⟨he, below_step hb' hb2⟩)


end Go.Proofs.Ythkoignldhocgac.PFnExactArrivalsOf
