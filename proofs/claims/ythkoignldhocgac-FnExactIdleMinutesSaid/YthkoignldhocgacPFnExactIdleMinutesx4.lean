-- Written by a program of this claim, over the kit's print: the functions that a law reaches, their plain forms and the walks.
import Derived.Test.YthkoignldhocgacPFnExactIdleMinutesx0
namespace Go.Proofs.Ythkoignldhocgac.PFnExactIdleMinutes
open Go.RowKit Go.Proofs.YthkoignldhocgacW.PrintWords Go.Proofs.YthkoignldhocgacW.PrintLast Go.Proofs.YthkoignldhocgacW.PrintMore
attribute [local go_sem] max2_int min2_int max_two min_two max_three min_three max_four min_four   -- for this text's walks alone
set_option linter.unusedVariables false
set_option linter.unusedSimpArgs false

/-! ### impl_arrivals_1: function 50 -/
/-- The closure: is it of the same person and minute? -/
def impl_arrivals_1.p (x0 x2 : Int) (c : S42) : Bool := decide (c.f0 = x0) && decide (c.f2 = x2)
theorem impl_arrivals_1.clos (B : Nat) (x0 x1 x2 : Int) (c : S42) (w : World) (hB0 : w.cell? ⟨B, 0, none⟩ = some (.int .i64 x0)) (hB2 : w.cell? ⟨B, 2, none⟩ = some (.int .i64 x2)) :
    Calls Try.prog 50 #[.agg #[.int .i64 c.f0, .int .i64 c.f1, .int .i64 c.f2], .pointer (some ⟨B, 0, none⟩)] w fun e w' => e = .returned (.bool (impl_arrivals_1.p x0 x2 c)) ∧ Below w.heap.size w w' := by
  have hBW : B < w.heap.size := World.block_lt_of_cell? w _ hB0
  have hne : B ≠ w.heap.size := by omega
  have hr : Aside0 (impl_arrivals_1.p x0 x2 c = (decide (c.f0 = x0) && decide (c.f2 = x2))) := ⟨rfl⟩
  generalize impl_arrivals_1.p x0 x2 c = r at hr ⊢
  by_cases h0 : c.f0 = x0
  · have e0 : (c.f0 == x0) = true := beq_iff_eq.mpr h0
    have H0 := Aside0.mk h0
    clear h0
    by_cases h2 : c.f2 = x2
    · have e2 : (c.f2 == x2) = true := beq_iff_eq.mpr h2
      have H2 := Aside0.mk h2
      clear h2
      go_enter Try.func50, Try.ntmps50
      go_wp2
      go_ret
      exact ⟨by rw [hr.out]; simp [H0.out, H2.out], by repeat (first | exact Below.refl _ _ | apply below_alloc | apply pw_below_drewN)⟩
    · have e2 : (c.f2 == x2) = false := by simp [h2]
      have H2 := Aside0.mk h2
      clear h2
      go_enter Try.func50, Try.ntmps50
      go_wp2
      go_ret
      exact ⟨by rw [hr.out]; simp [H0.out, H2.out], by repeat (first | exact Below.refl _ _ | apply below_alloc | apply pw_below_drewN)⟩
  · have e0 : (c.f0 == x0) = false := by simp [h0]
    have H0 := Aside0.mk h0
    clear h0
    go_enter Try.func50, Try.ntmps50
    go_wp2
    go_ret
    exact ⟨by rw [hr.out]; simp [H0.out], by repeat (first | exact Below.refl _ _ | apply below_alloc | apply pw_below_drewN)⟩
theorem impl_arrivals_1.ret_int {k : IntKind} {a b : Int} (h : a = b) : Ending.returned (.int k a) = .returned (.int k b) := by rw [h]
open Go.Proofs.YthkoignldhocgacW.Help in
set_option maxHeartbeats 2000000 in
theorem impl_arrivals_1.indexFunc (g : Nat) (lb : Array Value) (p : S42 → Bool) (A1 : Option Addr) (c1 : Nat) (l1 : List S42) (w : World) (hr : Kd.C k42 w A1 l1.length l1)
    (eg : ∀ args w, (callFunc g args).run Try.prog w = .ok (.enter g args) w)
    (hp : ∀ (W : World) (x : S42), Below w.heap.size w W → Calls Try.prog g (#[.agg #[.int .i64 x.f0, .int .i64 x.f1, .int .i64 x.f2]] ++ lb) W fun e W' => e = .returned (.bool (p x)) ∧ Below w.heap.size w W') :
    Calls Try.prog 37 #[.slice A1 l1.length c1, .func (.func g) #[] lb] w fun e w' => e = .returned (.int .i64 (fi p l1)) ∧ Below w.heap.size w w' := by
  have hu := Try.underlying42
  have hlen : l1.length ≤ 9223372036854775807 := hr.2.1
  have HR := Aside0.mk hr
  have HP := Aside0.mk hp
  clear hr hp
  go_enter Try.func37, Try.ntmps37
  go_wp2
  go_loopg [5, 8] l1.length (fun gg _ s8 wr => ∃ x : Int, s8 = .int .i64 x ∧ Aside0 (0 ≤ x ∧ x ≤ (l1.length : Int) ∧ l1.length - x.toNat ≤ gg) ∧ Aside0 (Below w.heap.size w wr) ∧ Aside0 (∀ j, j < x.toNat → p (l1.getD j z42) = false))
  case atStart => exact ⟨0, rfl, ⟨by omega, by omega, by simp⟩, ⟨Below.refl _ w⟩, ⟨fun j hj => absurd hj (Nat.not_lt_zero _)⟩⟩
  case round =>
    obtain ⟨x, rfl, HX, BW, A⟩ := hrel
    by_cases hlt : x < (l1.length : Int)
    · have p0 : 0 ≤ x := HX.out.1
      obtain ⟨ad, e, hx0, hx1, hx2⟩ := at_T42 HR.out x p0 hlt
      subst e
      replace hx0 := (BW.out.cell (World.block_lt_of_cell? w _ hx0)).trans hx0
      replace hx1 := (BW.out.cell (World.block_lt_of_cell? w _ hx1)).trans hx1
      replace hx2 := (BW.out.cell (World.block_lt_of_cell? w _ hx2)).trans hx2
      have hcall := HP.out wr (rd_T42 l1 x) BW.out
      have B : Aside0 (l1.getD x.toNat z42 = rd_T42 l1 x) := ⟨rfl⟩
      have HL := Aside0.mk hlt
      have d1 : decide (x < (l1.length : Int)) = true := decide_eq_true hlt
      have d0 : decide (0 ≤ x) = true := decide_eq_true p0
      replace p0 := eq_true p0
      replace hlt := eq_true hlt
      clear HP HR
      generalize rd_T42 l1 x = y at hcall hx0 hx1 hx2 B
      cases hq : p y with
      | true =>
        rw [hq] at hcall
        have HQ := Aside0.mk hq
        clear hq
        go_wp2_with fail
        refine hcall.mono ?_
        rintro e w' ⟨rfl, hb'⟩
        go_wp2
        go_ret
        exact ⟨impl_arrivals_1.ret_int (by rw [fi_hit z42 (k := x.toNat) (by have := HL.out; have := HX.out; omega) (by rw [B.out]; exact HQ.out) A.out, Int.toNat_of_nonneg HX.out.1]), hb'⟩
      | false =>
        rw [hq] at hcall
        have HQ := Aside0.mk hq
        clear hq
        go_wp2_with fail
        refine hcall.mono ?_
        rintro e w' ⟨rfl, hb'⟩
        go_wp2
        go_roundg (l1.length - (x.toNat + 1))
        case measure => have := HL.out; have := HX.out; omega
        case rel =>
          have h1 := HL.out
          have h2 := HX.out
          refine ⟨x + 1, by first | rfl | (rw [show wrap64 (x + 1) = x + 1 by unfold wrap64; omega]), ⟨by omega, by omega, by omega⟩, ⟨hb'⟩, ⟨fun j hj => ?_⟩⟩
          by_cases e : j = x.toNat
          · rw [e, B.out]; exact HQ.out
          · exact A.out j (by omega)
    · have HL := Aside0.mk hlt
      have d1 : decide (x < (l1.length : Int)) = false := decide_eq_false hlt
      clear hlt
      go_wp2
      go_ret
      exact ⟨impl_arrivals_1.ret_int (by rw [fi_miss z42 (fun j hj => A.out j (by have := HL.out; have := HX.out; omega))]), BW.out⟩
open Go.Proofs.YthkoignldhocgacW.Help in
theorem impl_arrivals_1.containsFunc (g : Nat) (lb : Array Value) (p : S42 → Bool) (A1 : Option Addr) (c1 : Nat) (l1 : List S42) (w : World) (hr : Kd.C k42 w A1 l1.length l1)
    (eg : ∀ args w, (callFunc g args).run Try.prog w = .ok (.enter g args) w)
    (hp : ∀ (W : World) (x : S42), Below w.heap.size w W → Calls Try.prog g (#[.agg #[.int .i64 x.f0, .int .i64 x.f1, .int .i64 x.f2]] ++ lb) W fun e W' => e = .returned (.bool (p x)) ∧ Below w.heap.size w W') :
    Calls Try.prog 49 #[.slice A1 l1.length c1, .func (.func g) #[] lb] w fun e w' => e = .returned (.bool (l1.any p)) ∧ Below w.heap.size w w' := by
  have hcon := impl_arrivals_1.indexFunc g lb p A1 c1 l1 w hr eg hp
  have e1 : Aside0 (decide (fi p l1 ≥ 0) = l1.any p) := ⟨fi_ge p l1⟩
  generalize fi p l1 = r at hcon e1
  clear hr eg hp
  go_enter Try.func49, Try.ntmps49
  go_wp2_with (go_at_call 37; refine hcon.mono ?_; rintro e w' ⟨rfl, hb'⟩)
  go_ret
  exact ⟨by rw [← e1.out]; rfl, hb'⟩
def impl_arrivals_1.f (l0 : List S42) (x0 x1 x2 : Int) : Option Bool := some (l0.any (impl_arrivals_1.p x0 x2))
theorem impl_arrivals_1.calls (A0 : Option Addr) (c0 : Nat) (l0 : List S42) (B : Nat) (x0 x1 x2 : Int) (r : Bool) (w : World) (hr0 : Kd.C k42 w A0 l0.length l0) (hc0 : l0.length ≤ c0) (hB : w.heap[B]? = some (.cells #[.int .i64 x0, .int .i64 x1, .int .i64 x2] 42 (0, 0))) (h : impl_arrivals_1.f l0 x0 x1 x2 = some r) :
    Calls Try.prog 49 #[.slice A0 l0.length c0, .func (.func 50) #[] #[.pointer (some ⟨B, 0, none⟩)]] w fun e w' => e = .returned (.bool r) ∧ Below w.heap.size w w' := by
  have eg : ∀ args w, (callFunc 50 args).run Try.prog w = .ok (.enter 50 args) w := Go.Proofs.enters_of Try.func50 (by kernel_rfl) rfl
  obtain rfl := Option.some.inj h
  have h0 : w.cell? ⟨B, 0, none⟩ = some (.int .i64 x0) := (blk_cell hB 0).trans rfl
  have h2 : w.cell? ⟨B, 2, none⟩ = some (.int .i64 x2) := (blk_cell hB 2).trans rfl
  have hlt : B < w.heap.size := World.block_lt_of_cell? w _ h0
  exact impl_arrivals_1.containsFunc _ _ _ A0 c0 l0 w hr0 eg (fun W' x hb' => (impl_arrivals_1.clos B x0 x1 x2 x W' ((hb'.cell (p := ⟨B, 0, none⟩) hlt).trans h0) ((hb'.cell (p := ⟨B, 2, none⟩) hlt).trans h2)).mono fun e w2 ⟨he, hb2⟩ => ⟨he, below_step hb' hb2⟩)


end Go.Proofs.Ythkoignldhocgac.PFnExactIdleMinutes
