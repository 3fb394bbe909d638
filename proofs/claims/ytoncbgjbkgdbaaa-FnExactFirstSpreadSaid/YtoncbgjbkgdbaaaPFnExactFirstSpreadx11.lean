-- Written by a program of this claim, over the kit's print: the functions that a law reaches, their plain forms and the walks.
import Derived.Test.YtoncbgjbkgdbaaaPFnExactFirstSpreadx0
import Derived.Test.YtoncbgjbkgdbaaaPFnExactFirstSpreadx5
import Derived.Test.YtoncbgjbkgdbaaaPFnExactFirstSpreadx7
import Derived.Test.YtoncbgjbkgdbaaaPFnExactFirstSpreadx8
import Derived.Test.YtoncbgjbkgdbaaaPFnExactFirstSpreadx9
import Derived.Test.YtoncbgjbkgdbaaaPFnExactFirstSpreadx10
namespace Go.Proofs.Ytoncbgjbkgdbaaa.PFnExactFirstSpread
open Go.RowKit Go.Proofs.YtoncbgjbkgdbaaaW.PrintWords Go.Proofs.YtoncbgjbkgdbaaaW.PrintLast Go.Proofs.YtoncbgjbkgdbaaaW.PrintMore
attribute [local go_sem] max2_int min2_int max_two min_two max_three min_three max_four min_four   -- for this text's walks alone
set_option linter.unusedVariables false
set_option linter.unusedSimpArgs false

/-! ### impl_isSpread: function 33 -/
def impl_isSpread.f (k : Nat) (a0 : Int) (l1 : List (S54)) : Option (Bool) := if a0 ≤ 8 then ((impl_ArePairs.f k a0 l1).bind fun t223 => (some t223)) else (some false)
theorem impl_isSpread.mono : ∀ a0 a1 k, LeO (impl_isSpread.f k a0 a1) (impl_isSpread.f (k + 1) a0 a1) := by
  intro a0 a1 k
  unfold impl_isSpread.f
  repeat' first
      | (with_reducible exact impl_ArePairs.mono _ _ _)
      | (with_reducible exact LeO.refl _)
      | (with_reducible exact LeO.none _)
      | (with_reducible refine LeO.ite ?_ ?_)
      | (with_reducible refine LeO.bind ?_ (fun _ => ?_))
      | exact impl_ArePairs.mono _ _ _
      | exact LeO.none _
      | refine LeO.ite ?_ ?_
      | refine LeO.bind ?_ (fun _ => ?_)
set_option maxHeartbeats 8000000 in
set_option maxRecDepth 100000 in
theorem impl_isSpread.calls (k : Nat) (a0 : Int) (A1 : Option Addr) (c1 : Nat) (l1 : List (S54)) (r : Bool) (w : World) (hr1 : Kd.C k54 w A1 l1.length l1) (hc1 : l1.length ≤ c1) (h : impl_isSpread.f k a0 l1 = some r) :
    Calls Try.prog 33 #[.int .i64 a0, .slice A1 l1.length c1] w fun e w' => e = .returned (.bool r) ∧ Below w.heap.size w w' := by
  have HR1 := Aside0.mk hr1
  have HC1 := Aside0.mk hc1
  clear hr1 hc1
  have HB := Aside0.mk (Below.refl w.heap.size w)
  have H : (if a0 ≤ 8 then ((impl_ArePairs.f k a0 l1).bind fun t223 => (some t223)) else (some false)) = some r := h
  clear h
  by_cases c3 : a0 ≤ 8
  · rw [if_pos c3] at H
    have c3b0 : decide (a0 ≤ 8) = true := decide_eq_true c3
    clear c3
    replace H := Option.bind_eq_some_iff.mp H
    obtain ⟨t223, A40, H⟩ := H
    replace H : (some t223) = some r := H
    have A4 := Aside0.mk A40
    clear A40
    obtain rfl := Option.some.inj H
    go_enter Try.func33, Try.ntmps33
    go_wp2_with (first | (go_at_call 52; (with_reducible refine (impl_ArePairs.calls k a0 _ _ l1 t223 _ ?side1 ?side2 A4.out).mono ?_); (case side1 => repeat (first | exact HR1.out | (with_reducible refine Kd.C_alloc ?_ _) | (with_reducible refine Kd.C_drewN ?_ _) | (with_reducible refine Kd.C_drew ?_))); (case side2 => exact HC1.out); rintro e w5 ⟨rfl, hb⟩; have n0_ := Aside0.mk (below_step (by repeat (first | (with_reducible first | exact HB.out | apply below_alloc | apply pw_below_drewN | apply below_drew1) | exact HB.out)) hb); clear HB; have HB := n0_; clear n0_; (try clear hb); (try clear hb2); (try clear hk); (try clear hi)))
    go_ret
    exact ⟨by first | rfl | (simp [errW_none, errW_some] <;> rfl) | (simp [*, errW_none, errW_some] <;> rfl), by repeat (first | (with_reducible first | exact HB.out | apply below_alloc | apply pw_below_drewN | apply below_drew1) | exact HB.out)⟩
  · rw [if_neg c3] at H
    have c3b0 : decide (a0 ≤ 8) = false := decide_eq_false c3
    clear c3
    obtain rfl := Option.some.inj H
    go_enter Try.func33, Try.ntmps33
    go_wp2
    go_ret
    exact ⟨by first | rfl | (simp [errW_none, errW_some] <;> rfl) | (simp [*, errW_none, errW_some] <;> rfl), by repeat (first | (with_reducible first | exact HB.out | apply below_alloc | apply pw_below_drewN | apply below_drew1) | exact HB.out)⟩

/-! ### impl_isFriend: function 34 -/
def impl_isFriend.f (a0 : Int) (a1 : Int) : Option (Bool) := (impl_within.f a1 0 (wrap64 (a0 - 1))).bind fun t224 => (some t224)
set_option maxHeartbeats 8000000 in
set_option maxRecDepth 100000 in
theorem impl_isFriend.calls (a0 : Int) (a1 : Int) (r : Bool) (w : World) (h : impl_isFriend.f a0 a1 = some r) :
    Calls Try.prog 34 #[.int .i64 a0, .int .i64 a1] w fun e w' => e = .returned (.bool r) ∧ Drawn0 w w' := by
  have H : ((impl_within.f a1 0 (wrap64 (a0 - 1))).bind fun t224 => (some t224)) = some r := h
  clear h
  replace H := Option.bind_eq_some_iff.mp H
  obtain ⟨t224, A30, H⟩ := H
  replace H : (some t224) = some r := H
  have A3 := Aside0.mk A30
  clear A30
  obtain rfl := Option.some.inj H
  go_enter Try.func34, Try.ntmps34
  go_wp2_with (first | ((with_reducible refine gate_callee (f := 35) rfl ?_); refine goesL_ (some 8) rfl rfl Try.func35 (by kernel_rfl) rfl #[.int .i64 a1, .int .i64 0, .int .i64 (wrap64 (a0 - 1))] rfl (by (try simp only [List.map_toArray, List.map_cons, List.map_nil]); first | done | rfl | (simp only [List.length_drop, List.length_take]; rfl) | (simp; done) | (refine congrArg Value.bool ?_; simp; done) | (refine congrArg (fun z_ => #[Value.bool z_]) ?_; simp; done)) ?_; (with_reducible refine (impl_within.calls a1 0 (wrap64 (a0 - 1)) t224 _ A3.out).mono ?_); rintro e w' ⟨rfl, ⟨nd, rfl⟩⟩; refine ⟨_, rfl, ?_⟩))
  go_ret
  exact ⟨by first | rfl | (simp; done) | (simp [*]; done), by repeat (first | exact Drawn0.refl _ | apply Drawn0.step)⟩

/-! ### impl_SpreadRounds: function 44 -/
/-- Sets of friends. -/
def impl_SpreadRounds.In (fr set : Int) : Prop := 0 ≤ set ∧ set < 2 ^ fr.toNat
/-- What holds for the law's arguments. -/
def impl_SpreadRounds.Fine (fr : Int) (pairs : List S54) : Prop := (0 ≤ fr ∧ fr ≤ 8) ∧ pairs.length ≤ 1000 ∧ (∀ x ∈ pairs, 0 ≤ x.f0 ∧ 0 ≤ x.f1) ∧ (∀ set, (impl_spread_rounds.rounds set pairs).length ≤ 1000000000) ∧ (∀ set, impl_SpreadRounds.In fr set → impl_spread_left.Good fr pairs 300 set) ∧ ∀ set, impl_SpreadRounds.In fr set → ∀ r ∈ impl_spread_rounds.rounds set pairs, impl_SpreadRounds.In fr (impl_spread_left.bh set r)
open Classical in
noncomputable def impl_SpreadRounds.f (k : Nat) (a0 : Int) (l1 : List S54) (a2 : Int) : Option (Int × Bool) := (impl_isSpread.f k a0 l1).bind fun t => if t = true then ((impl_isFriend.f a0 a2).bind fun u => if u = true then (if impl_SpreadRounds.Fine a0 l1 ∧ 0 ≤ a2 ∧ a2 < a0 then some (max (impl_spread_left.D a0 l1 (shl .u16 1 a2)) 0, decide (0 ≤ impl_spread_left.D a0 l1 (shl .u16 1 a2))) else none) else some (0, false)) else some (0, false)
theorem impl_SpreadRounds.mono : ∀ a0 a1 a2 k, LeO (impl_SpreadRounds.f k a0 a1 a2) (impl_SpreadRounds.f (k + 1) a0 a1 a2) := fun a0 a1 a2 k => LeO.bind (impl_isSpread.mono _ _ _) (fun _ => LeO.refl _)
open Go.Maps in
theorem impl_SpreadRounds.memo0 {fr : Int} {pairs : List S54} {b : Nat} {w : World} (h : w.heap[b]? = some (.map #[] 0)) : impl_spread_left.Memo fr pairs b w :=
  ⟨.map [], ⟨#[], 0, h, ⟨by simp, Go.MapKept.stamped_empty 0, by simp⟩, by simp, rfl⟩, fun s hs => by simp [has] at hs⟩
theorem impl_SpreadRounds.C_lt {w : World} {A : Option Addr} {n : Nat} {l : List S54} (h : Kd.C k54 w A n l) (hn : 0 < n) (ad : Addr) (e : A = some ad) : ad.block < w.heap.size := by
  obtain ⟨h1, h2, h3⟩ := h
  obtain ⟨ad2, h4, hc⟩ := h3 hn
  cases e.symm.trans h4
  cases l with
  | nil => simp at h1; omega
  | cons p l =>
    obtain ⟨c, hl, hK, hcc⟩ := hc 0 p rfl
    have hce := k54_open hK
    subst hce
    have h4 := hcc 0 _ rfl
    have h5 := World.block_lt_of_cell? w _ h4
    rw [add_block] at h5
    exact h5
theorem impl_SpreadRounds.shl_in {a0 a2 : Int} (h8 : a0 ≤ 8) (h0 : 0 ≤ a2) (h1 : a2 < a0) : impl_SpreadRounds.In a0 (shl .u16 1 a2) := by
  have h : (a0 = 1 ∨ a0 = 2 ∨ a0 = 3 ∨ a0 = 4 ∨ a0 = 5 ∨ a0 = 6 ∨ a0 = 7 ∨ a0 = 8) ∧ (a2 = 0 ∨ a2 = 1 ∨ a2 = 2 ∨ a2 = 3 ∨ a2 = 4 ∨ a2 = 5 ∨ a2 = 6 ∨ a2 = 7) := by omega
  obtain ⟨h2, h3⟩ := h
  unfold impl_SpreadRounds.In
  rcases h3 with rfl | rfl | rfl | rfl | rfl | rfl | rfl | rfl <;> rcases h2 with rfl | rfl | rfl | rfl | rfl | rfl | rfl | rfl <;> first | omega | decide
theorem impl_SpreadRounds.in_u16 {a0 s : Int} (h8 : a0 ≤ 8) (h : impl_SpreadRounds.In a0 s) : 0 ≤ s ∧ s < 65536 := by
  obtain ⟨h0, h1⟩ := h
  refine ⟨h0, Int.lt_trans h1 ?_⟩
  have h : a0.toNat ≤ 8 := by omega
  generalize a0.toNat = n at h
  have h2 : (2 : Nat) ^ n ≤ 2 ^ 8 := Nat.pow_le_pow_right (by decide) h
  have h3 : ((2 ^ n : Nat) : Int) = (2 : Int) ^ n := by simp
  omega
def impl_SpreadRounds.T3 : Bool × List (List Nat × List Nat) := (true, [([], []), ([], []), ([0, 1], [0, 1]), ([], []), ([3], [3]), ([2, 4, 2], [2, 4]), ([5, 5, 0, 1, 2, 3, 4, 5], [5])])
def impl_SpreadRounds.B3 : List Nat := [0, 0, 3, 0, 8, 31, 63]
theorem impl_SpreadRounds.tab3 : rtab .any (opsOf Try.f44 3) = impl_SpreadRounds.T3 := by kernel_rfl
theorem impl_SpreadRounds.bits3 : waitsOk impl_SpreadRounds.T3.2 impl_SpreadRounds.B3 = true := by kernel_rfl
set_option maxHeartbeats 8000000 in
set_option maxRecDepth 100000 in
theorem impl_SpreadRounds.calls (k : Nat) (a0 : Int) (A1 : Option Addr) (c1 : Nat) (l1 : List S54) (a2 : Int) (r1 : Int) (r2 : Bool) (w : World) (hr1 : Kd.C k54 w A1 l1.length l1) (hc1 : l1.length ≤ c1) (h : impl_SpreadRounds.f k a0 l1 a2 = some (r1, r2)) :
    Calls Try.prog 44 #[.int .i64 a0, .slice A1 l1.length c1, .int .i64 a2] w fun e w' => e = .returned (.tuple #[.int .i64 r1, .bool r2]) ∧ Below w.heap.size w w' := by
  have HR1 := Aside0.mk hr1
  have HC1 := Aside0.mk hc1
  clear hr1 hc1
  unfold impl_SpreadRounds.f at h
  replace h := Option.bind_eq_some_iff.mp h
  obtain ⟨t, ht, h⟩ := h
  have HT := Aside0.mk ht
  clear ht
  cases t with
  | false =>
    rw [if_neg (by decide)] at h
    obtain ⟨rfl, rfl⟩ := Prod.mk.inj (Option.some.inj h)
    clear h
    go_enter Try.func44, Try.ntmps44
    go_wp2_with fail
    refine (impl_isSpread.calls k a0 A1 c1 l1 false w HR1.out HC1.out HT.out).mono ?_
    rintro e w1 ⟨rfl, hb⟩
    have B1 := Aside0.mk hb
    clear hb
    go_wp2
    go_ret2
    exact ⟨rfl, B1.out⟩
  | true =>
    rw [if_pos rfl] at h
    replace h := Option.bind_eq_some_iff.mp h
    obtain ⟨u, hu, h⟩ := h
    have HU := Aside0.mk hu
    clear hu
    cases u with
    | false =>
      rw [if_neg (by decide)] at h
      obtain ⟨rfl, rfl⟩ := Prod.mk.inj (Option.some.inj h)
      clear h
      go_enter Try.func44, Try.ntmps44
      go_wp2_with fail
      refine (impl_isSpread.calls k a0 A1 c1 l1 true w HR1.out HC1.out HT.out).mono ?_
      rintro e w1 ⟨rfl, hb⟩
      have B1 := Aside0.mk hb
      clear hb
      go_wp2_with fail
      refine (impl_isFriend.calls a0 a2 false w1 HU.out).mono ?_
      rintro e w2 ⟨rfl, hd⟩
      have B2 := Aside0.mk (below_step B1.out (show Below w1.heap.size w1 w2 from by obtain ⟨n, rfl⟩ := hd.out; exact pw_below_drewN (Below.refl _ _) n))
      clear hd B1
      go_wp2
      go_ret2
      exact ⟨rfl, B2.out⟩
    | true =>
      rw [if_pos rfl] at h
      by_cases hF : impl_SpreadRounds.Fine a0 l1 ∧ 0 ≤ a2 ∧ a2 < a0
      case neg => rw [if_neg hF] at h; cases h
      rw [if_pos hF] at h
      have HF := Aside0.mk hF
      obtain ⟨rfl, rfl⟩ := Prod.mk.inj (Option.some.inj h)
      clear h hF
      go_enter Try.func44, Try.ntmps44
      go_wp2_with fail
      refine (impl_isSpread.calls k a0 A1 c1 l1 true w HR1.out HC1.out HT.out).mono ?_
      rintro e w1 ⟨rfl, hb⟩
      have B1 := Aside0.mk hb
      clear hb
      go_wp2_with fail
      refine (impl_isFriend.calls a0 a2 true w1 HU.out).mono ?_
      rintro e w2 ⟨rfl, hd⟩
      have B2 := Aside0.mk (below_step B1.out (show Below w1.heap.size w1 w2 from by obtain ⟨n, rfl⟩ := hd.out; exact pw_below_drewN (Below.refl _ _) n))
      clear hd B1
      have hfr := HF.out.1.1
      obtain ⟨SH, hSH⟩ : ∃ SH, IntKind.u16.wrap (2 ^ min a2.toNat 16) = SH := ⟨_, rfl⟩
      have hS2 : shl .u16 1 a2 = SH := by rw [← hSH]; unfold shl; rw [Int.one_mul]; rfl
      have HIN := Aside0.mk (show impl_SpreadRounds.In a0 SH by rw [← hS2]; exact impl_SpreadRounds.shl_in hfr.2 HF.out.2.1 HF.out.2.2)
      have HS2 := Aside0.mk hS2
      have i3 : decide (0 ≤ a2) = true := decide_eq_true HF.out.2.1
      have i4 : (0 ≤ a2) = True := eq_true HF.out.2.1
      clear hS2 hfr
      go_wp2_with fail
      refine start_ (n := 7) (S := fun _ => True) (ds := []) #[false, false, false, false, false, false, false] (by kernel_rfl) rfl rfl trivial (fun _ => ?_); refine with_tabW impl_SpreadRounds.tab3 impl_SpreadRounds.bits3 (fun HT_ HW_ => ?_)
      have BD := Aside0.mk (below_step B2.out (below_drew1 (Below.refl w2.heap.size w2)))
      generalize w2.drew = wd at BD ⊢
      refine pure_ (i := 0) (N := some 19) (v := ?_) (a' := ?_) #[true, false, false, false, false, false, false] rfl rfl (any_of HT_.out (by kernel_rfl)) (fun _ _ _ h => h) (Or.inl ⟨by rfl, ?_⟩) ?_ ?_
      rotate_left
      · intro w'
        go_simp
        with_reducible rfl
      rotate_left
      · simp only [Act.put, List.setIfInBounds_toArray, List.set_cons_zero, List.set_cons_succ, i64_w, i32_w]
        rfl
      refine pure_ (i := 1) (N := some 20) (v := ?_) (a' := ?_) #[true, true, false, false, false, false, false] rfl rfl (any_of HT_.out (by kernel_rfl)) (fun _ _ _ h => h) (Or.inl ⟨by rfl, ?_⟩) ?_ ?_
      rotate_left
      · intro w'
        go_simp
        with_reducible rfl
      rotate_left
      · simp only [Act.put, List.setIfInBounds_toArray, List.set_cons_zero, List.set_cons_succ, i64_w, i32_w]
        rfl
      refine pure_ (i := 3) (N := some 22) (v := ?_) (a' := ?_) #[true, true, false, true, false, false, false] rfl rfl (any_of HT_.out (by kernel_rfl)) (fun _ _ _ h => h) (Or.inl ⟨by rfl, ?_⟩) ?_ ?_
      rotate_left
      · intro w'
        go_simp
        with_reducible rfl
      rotate_left
      · simp only [Act.put, List.setIfInBounds_toArray, List.set_cons_zero, List.set_cons_succ, i64_w, i32_w]
        rfl
      refine pure_ (i := 4) (N := some 23) (v := ?_) (a' := ?_) #[true, true, false, true, true, false, false] rfl rfl (any_of HT_.out (by kernel_rfl)) (fun _ _ _ h => h) (Or.inl ⟨by rfl, ?_⟩) ?_ ?_
      rotate_left
      · intro w'
        go_simp
        with_reducible rfl
      rotate_left
      · simp only [Act.put, List.setIfInBounds_toArray, List.set_cons_zero, List.set_cons_succ, i64_w, i32_w]
        rfl
      refine one_ (i := 2) (N := some 21) #[true, true, true, true, true, false, false] rfl rfl (one_of HT_.out (by kernel_rfl)) (by decide) (fun K hK => ?_)
      refine goes_ Try.func36 (by kernel_rfl) rfl #[.int .i64 a0, .slice A1 l1.length c1] (by rfl) rfl rfl (by (try simp only [List.map_toArray, List.map_cons, List.map_nil]); rfl) ?_
      refine (impl_spreadOf.calls a0 A1 l1.length c1 wd).mono ?_
      rintro e w3 ⟨b, rfl, hbs, hbm, hb3⟩
      refine ⟨_, rfl, ?_⟩
      have B3 := Aside0.mk (below_step BD.out hb3)
      have M3 := Aside0.mk (impl_SpreadRounds.memo0 (fr := a0) (pairs := l1) hbm)
      have BL := Aside0.mk (show w.heap.size ≤ b from Nat.le_trans BD.out.size hbs)
      clear hbs hbm hb3
      refine hK.out _ _ trivial (fun _ => ?_)
      clear hK K
      refine norm_ (a' := ?_) ?_ ?_
      rotate_left
      · show Act.put _ (some 21) _ = _
        simp only [Act.put, List.setIfInBounds_toArray, List.set_cons_zero, List.set_cons_succ, i64_w, i32_w]
        rfl
      refine one_ (i := 5) (N := some 24) #[true, true, true, true, true, true, false] rfl rfl (one_of HT_.out (by kernel_rfl)) (by decide) (fun K hK => ?_)
      have hrange := impl_SpreadRounds.in_u16 HF.out.1.1.2 HIN.out
      have hCl := impl_spread_left.left a0 HF.out.1.1.1 l1 HF.out.1.2.1 HF.out.1.2.2.1 HF.out.1.2.2.2.1 A1 c1 b HC1.out 300 (Nat.le_refl _) SH w3 hrange.1 hrange.2 (HF.out.1.2.2.2.2.1 SH HIN.out) M3.out (Kd.C_below HR1.out B3.out) (fun h0 ad e => by have h1 := impl_SpreadRounds.C_lt HR1.out h0 ad e; have := BL.out; omega)
      refine goes_ Try.func43 (by kernel_rfl) rfl #[.agg #[.int .i64 a0, .slice A1 l1.length c1, .map (some b)], .int .u16 SH] (by rfl) rfl rfl (by (try simp only [List.map_toArray, List.map_cons, List.map_nil]); first | rfl | (rw [hSH]; rfl) | (simp only [hSH]; rfl)) ?_
      refine hCl.mono ?_
      clear hCl
      rintro e w5 ⟨rfl, _, hG5⟩
      refine ⟨_, rfl, ?_⟩
      have B5 := Aside0.mk (show Below w.heap.size w w5 from B3.out.trans ⟨hG5.os, hG5.tape, hG5.output, hG5.size, fun i hi => hG5.block i (Nat.lt_of_lt_of_le hi B3.out.size) (fun e => by have := Option.some.inj e; have := BL.out; omega)⟩)
      clear hG5 hrange
      refine hK.out _ _ trivial (fun _ => ?_)
      clear hK K
      refine norm_ (a' := ?_) ?_ ?_
      rotate_left
      · show Act.put _ (some 24) _ = _
        simp only [Act.put, List.setIfInBounds_toArray, List.set_cons_zero, List.set_cons_succ, i64_w, i32_w]
        rfl
      obtain ⟨nn, hnn⟩ : ∃ nn, nn = impl_spread_left.D a0 l1 SH := ⟨_, rfl⟩
      rw [← hnn]
      have HN := Aside0.mk (show impl_spread_left.D a0 l1 (shl .u16 1 a2) = nn by rw [HS2.out]; exact hnn.symm)
      clear hnn
      refine pure_ (i := 6) (N := some 8) (v := ?_) (a' := ?_) #[true, true, true, true, true, true, true] rfl rfl (any_of HT_.out (by kernel_rfl)) (fun _ _ _ h => h) (Or.inl ⟨by rfl, ?_⟩) ?_ ?_
      rotate_left
      · intro w'
        go_simp
        with_reducible rfl
      rotate_left
      · simp only [Act.put, List.setIfInBounds_toArray, List.set_cons_zero, List.set_cons_succ, i64_w, i32_w]
        rfl
      refine done_ (done_of HT_.out (by kernel_rfl)) ?_
      by_cases n1 : 0 ≤ nn
      · have n2 : decide (0 ≤ nn) = true := decide_eq_true n1
        have n3 : (0 ≤ nn) = True := eq_true n1
        have n4 : max nn 0 = nn := by omega
        go_wp2
        go_ret2
        refine ⟨?_, B5.out⟩
        rw [HN.out, n4, n2]
        rfl
      · have n2 : decide (0 ≤ nn) = false := decide_eq_false n1
        have n3 : (0 ≤ nn) = False := eq_false n1
        have n4 : max nn 0 = 0 := by omega
        go_wp2
        go_ret2
        refine ⟨?_, B5.out⟩
        rw [HN.out, n4, n2]
        rfl



end Go.Proofs.Ytoncbgjbkgdbaaa.PFnExactFirstSpread
