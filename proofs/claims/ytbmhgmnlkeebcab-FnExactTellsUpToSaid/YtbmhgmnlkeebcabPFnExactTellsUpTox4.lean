-- Written by a program of this claim, over the kit's print: the functions that a law reaches, their plain forms and the walks.
import Derived.Test.YtbmhgmnlkeebcabPFnExactTellsUpTox0
import Derived.Test.YtbmhgmnlkeebcabPFnExactTellsUpTox3
namespace Go.Proofs.Ytbmhgmnlkeebcab.PFnExactTellsUpTo
open Go.RowKit Go.Proofs.YtbmhgmnlkeebcabW.PrintWords Go.Proofs.YtbmhgmnlkeebcabW.PrintLast Go.Proofs.YtbmhgmnlkeebcabW.PrintMore
attribute [local go_sem] max2_int min2_int max_two min_two max_three min_three max_four min_four   -- for this text's walks alone
set_option linter.unusedVariables false
set_option linter.unusedSimpArgs false

/-! ### impl_AreTests: function 33 -/
namespace Aux2
theorem w64 {x : Int} (h0 : -9223372036854775808 ≤ x) (h1 : x ≤ 9223372036854775807) : wrap64 x = x := by unfold wrap64; omega
theorem up64 {i n : Nat} (h : i < n) (hn : n ≤ 4611686018427387904) : wrap64 ((i : Int) + 1) = ((i + 1 : Nat) : Int) := by rw [w64 (by omega) (by omega)]; omega
theorem rd_lt {xs : List Int} {i : Nat} (h : i < xs.length) : rd xs (i : Int) = xs[i] := by unfold rd; simp [List.getD_eq_getElem?_getD, h]
/-- Is each one greater than the one before it? -/
def p_up : List Int → Bool
  | x :: y :: l => decide (x < y) && p_up (y :: l)
  | _ => true
end Aux2
/-- Is a list a strictly increasing one of so many wires? -/
def impl_AreTests.p_rising (a : Int) (l : List Int) : Bool := Aux2.p_up l && l.all fun y => decide (0 ≤ y) && decide (y ≤ wrap64 (a - 1))
theorem impl_AreTests.rising_l0 (a : Int) (l : List Int) (hn : l.length ≤ 4000000) : ∀ (d i k : Nat), i + d = l.length → 1 ≤ i → d < k → impl_isRising.l0 k a l (i : Int) = some (Aux2.p_up (l.drop (i - 1)) && l.all fun y => decide (0 ≤ y) && decide (y ≤ wrap64 (a - 1)))
  | 0, i, k, hi, h1, hk => by
    obtain ⟨k, rfl⟩ : ∃ q, k = q + 1 := ⟨k - 1, by omega⟩
    have e : Aux2.p_up (l.drop (i - 1)) = true := by
      have : (l.drop (i - 1)).length ≤ 1 := by rw [List.length_drop]; omega
      cases hq : l.drop (i - 1) with
      | nil => rfl
      | cons x t =>
        rw [hq] at this
        cases t with
        | nil => rfl
        | cons y t => simp at this
    simp only [impl_isRising.l0]
    rw [if_neg (by omega), e]
    unfold impl_areWithin.f impl_areWithin_1.f impl_areWithin_1.in_
    simp [List.not_any_eq_all_not]
  | d + 1, i, k, hi, h1, hk => by
    obtain ⟨k, rfl⟩ : ∃ q, k = q + 1 := ⟨k - 1, by omega⟩
    have ha : i < l.length := by omega
    have hb : i - 1 < l.length := by omega
    have ih := impl_AreTests.rising_l0 a l hn d (i + 1) k (by omega) (by omega) (by omega)
    have e1 : wrap64 ((i : Int) - 1) = ((i - 1 : Nat) : Int) := by rw [Aux2.w64 (by omega) (by omega)]; omega
    simp only [impl_isRising.l0]
    rw [if_pos (by omega), if_pos (by omega), e1, if_pos (by omega), if_pos (by omega), Aux2.rd_lt ha, Aux2.rd_lt hb, Aux2.up64 ha (by omega), ih]
    rw [List.drop_eq_getElem_cons hb, show i - 1 + 1 = i by omega, List.drop_eq_getElem_cons ha, show i + 1 - 1 = i by omega, List.drop_eq_getElem_cons ha]
    by_cases e : l[i] ≤ l[i - 1]
    · rw [if_pos e]
      simp [Aux2.p_up, show ¬ l[i - 1] < l[i] by omega]
    · rw [if_neg e]
      simp [Aux2.p_up, show l[i - 1] < l[i] by omega]
theorem impl_AreTests.rising_f (a : Int) (l : List Int) (hn : l.length ≤ 4000000) {k : Nat} (hk : l.length < k) : impl_isRising.f k a l = some (impl_AreTests.p_rising a l) := by
  unfold impl_isRising.f impl_AreTests.p_rising
  by_cases h : 1 ≤ l.length
  · have := impl_AreTests.rising_l0 a l hn (l.length - 1) 1 k (by omega) (by omega) (by omega)
    simpa using this
  · obtain ⟨k, rfl⟩ : ∃ q, k = q + 1 := ⟨k - 1, by omega⟩
    have e : l = [] := List.eq_nil_of_length_eq_zero (by omega)
    subst e
    simp only [impl_isRising.l0]
    rw [if_neg (by simp)]
    unfold impl_areWithin.f impl_areWithin_1.f
    simp [Aux2.p_up]
/-- The closure: is a row none of so many wires, or empty? -/
def impl_AreTests.p_bad (a : Int) (c : List Int) : Bool := decide (c.length = 0) || !impl_AreTests.p_rising a c
theorem impl_AreTests.clos (a : Int) (B : Nat) (A : Option Addr) (cc : Nat) (c : List Int) (w : World) (hB : w.cell? ⟨B, 0, none⟩ = some (.int .i64 a)) (hc : c.length ≤ 1048576) (hr : Kd.C (Kd.int .i64) w A c.length c) (hcc : c.length ≤ cc) :
    Calls Try.prog 59 #[.slice A c.length cc, .pointer (some ⟨B, 0, none⟩)] w fun e w' => e = .returned (.bool (impl_AreTests.p_bad a c)) ∧ Below w.heap.size w w' := by
  have h1 := Aside0.mk (impl_AreTests.rising_f a c (by omega) (show c.length < 2000000 by omega))
  have hp : Aside0 (impl_AreTests.p_bad a c = (decide (c.length = 0) || !impl_AreTests.p_rising a c)) := ⟨rfl⟩
  have HR := Aside0.mk hr
  have HC := Aside0.mk hcc
  clear hr hcc
  by_cases h0 : c.length = 0
  · have d1 : ((c.length : Int) == 0) = true := by rw [h0]; rfl
    have d2 : c = [] := List.eq_nil_of_length_eq_zero h0
    have hb : Aside0 (impl_AreTests.p_bad a c = true) := ⟨by rw [hp.out, decide_eq_true h0]; rfl⟩
    clear hp h1 h0
    subst d2
    go_enter Try.func59, Try.ntmps59
    go_wp2
    go_ret
    exact ⟨by rw [hb.out]; rfl, by repeat (first | exact Below.refl _ _ | apply below_alloc | apply pw_below_drewN)⟩
  · have d1 : ((c.length : Int) == 0) = false := beq_eq_false_iff_ne.mpr (by omega)
    have d2 : ¬ c = [] := fun e => h0 (by rw [e]; rfl)
    have hb : Aside0 (impl_AreTests.p_bad a c = !impl_AreTests.p_rising a c) := ⟨by rw [hp.out, decide_eq_false h0]; rfl⟩
    clear hp h0
    generalize impl_AreTests.p_rising a c = q at h1 hb
    generalize impl_AreTests.p_bad a c = q2 at hb ⊢
    go_enter Try.func59, Try.ntmps59
    go_wp2_with fail
    refine (impl_isRising.calls 2000000 a A cc c q _ HR.out HC.out h1.out).mono ?_
    rintro e w' ⟨rfl, hd⟩
    go_wp2
    go_ret
    exact ⟨by rw [hb.out]; rfl, by first | exact hd | exact Go.Proofs.YtbmhgmnlkeebcabW.Rng.drawn_below hd⟩
theorem impl_AreTests.ret_int {k : IntKind} {a b : Int} (h : a = b) : Ending.returned (.int k a) = .returned (.int k b) := by rw [h]
open Go.Proofs.YtbmhgmnlkeebcabW.Help in
set_option maxHeartbeats 2000000 in
theorem impl_AreTests.indexFunc (g : Nat) (lb : Array Value) (p : (List Int) → Bool) (A1 : Option Addr) (c1 : Nat) (l1 : List (List Int)) (w : World) (hr : Kd.C (Kd.slice 3 (Kd.int .i64)) w A1 l1.length l1)
    (eg : ∀ args w, (callFunc g args).run Try.prog w = .ok (.enter g args) w)
    (hp : ∀ (W : World) (A : Option Addr) (c : Nat) (x : List Int), x ∈ l1 → Below w.heap.size w W → Kd.C (Kd.int .i64) W A x.length x → x.length ≤ c → Calls Try.prog g (#[.slice A x.length c] ++ lb) W fun e W' => e = .returned (.bool (p x)) ∧ Below w.heap.size w W') :
    Calls Try.prog 75 #[.slice A1 l1.length c1, .func (.func g) #[] lb] w fun e w' => e = .returned (.int .i64 (fi p l1)) ∧ Below w.heap.size w w' := by
  have hlen : l1.length ≤ 9223372036854775807 := hr.2.1
  have HR := Aside0.mk hr
  have HP := Aside0.mk hp
  clear hr hp
  go_enter Try.func75, Try.ntmps75
  go_wp2
  go_loopg [5, 8] l1.length (fun gg _ s8 wr => ∃ x : Int, s8 = .int .i64 x ∧ Aside0 (0 ≤ x ∧ x ≤ (l1.length : Int) ∧ l1.length - x.toNat ≤ gg) ∧ Aside0 (Below w.heap.size w wr) ∧ Aside0 (∀ j, j < x.toNat → p (l1.getD j ([] : List Int)) = false))
  case atStart => exact ⟨0, rfl, ⟨by omega, by omega, by simp⟩, ⟨Below.refl _ w⟩, ⟨fun j hj => absurd hj (Nat.not_lt_zero _)⟩⟩
  case round =>
    obtain ⟨x, rfl, HX, BW, A⟩ := hrel
    by_cases hlt : x < (l1.length : Int)
    · have p0 : 0 ≤ x := HX.out.1
      obtain ⟨ad, A_, c_, e, hx0, hl0, hi0⟩ := at_L1 HR.out x p0 hlt
      subst e
      have hlt0 := World.block_lt_of_cell? w _ hx0
      replace hx0 := (BW.out.cell hlt0).trans hx0
      have hmem : rd_L1 l1 x ∈ l1 := by
        unfold rd_L1
        rw [List.getD_eq_getElem?_getD, List.getElem?_eq_getElem (show x.toNat < l1.length by omega)]
        exact List.getElem_mem _
      have hcall := HP.out wr A_ c_ (rd_L1 l1 x) hmem BW.out (Kd.C_below hi0 BW.out) hl0
      clear hmem hi0 hl0 hlt0
      have B : Aside0 (l1.getD x.toNat ([] : List Int) = rd_L1 l1 x) := ⟨rfl⟩
      have HL := Aside0.mk hlt
      have d1 : decide (x < (l1.length : Int)) = true := decide_eq_true hlt
      have d0 : decide (0 ≤ x) = true := decide_eq_true p0
      replace p0 := eq_true p0
      replace hlt := eq_true hlt
      clear HP HR
      generalize rd_L1 l1 x = y at hcall hx0 B
      cases hq : p y with
      | true =>
        rw [hq] at hcall
        have HQ := Aside0.mk hq
        clear hq
        go_wp2_with fail
        refine hcall.mono ?_
        rintro e w' ⟨rfl, hb'⟩
        go_wp2
        go_ret
        exact ⟨impl_AreTests.ret_int (by rw [fi_hit ([] : List Int) (k := x.toNat) (by have := HL.out; have := HX.out; omega) (by rw [B.out]; exact HQ.out) A.out, Int.toNat_of_nonneg HX.out.1]), hb'⟩
      | false =>
        rw [hq] at hcall
        have HQ := Aside0.mk hq
        clear hq
        go_wp2_with fail
        refine hcall.mono ?_
        rintro e w' ⟨rfl, hb'⟩
        go_wp2
        go_roundg (l1.length - (x.toNat + 1))
        case measure => have := HL.out; have := HX.out; omega
        case rel =>
          have h1 := HL.out
          have h2 := HX.out
          refine ⟨x + 1, by first | rfl | (rw [show wrap64 (x + 1) = x + 1 by unfold wrap64; omega]), ⟨by omega, by omega, by omega⟩, ⟨hb'⟩, ⟨fun j hj => ?_⟩⟩
          by_cases e : j = x.toNat
          · rw [e, B.out]; exact HQ.out
          · exact A.out j (by omega)
    · have HL := Aside0.mk hlt
      have d1 : decide (x < (l1.length : Int)) = false := decide_eq_false hlt
      clear hlt
      go_wp2
      go_ret
      exact ⟨impl_AreTests.ret_int (by rw [fi_miss ([] : List Int) (fun j hj => A.out j (by have := HL.out; have := HX.out; omega))]), BW.out⟩
open Go.Proofs.YtbmhgmnlkeebcabW.Help in
theorem impl_AreTests.containsFunc (g : Nat) (lb : Array Value) (p : (List Int) → Bool) (A1 : Option Addr) (c1 : Nat) (l1 : List (List Int)) (w : World) (hr : Kd.C (Kd.slice 3 (Kd.int .i64)) w A1 l1.length l1)
    (eg : ∀ args w, (callFunc g args).run Try.prog w = .ok (.enter g args) w)
    (hp : ∀ (W : World) (A : Option Addr) (c : Nat) (x : List Int), x ∈ l1 → Below w.heap.size w W → Kd.C (Kd.int .i64) W A x.length x → x.length ≤ c → Calls Try.prog g (#[.slice A x.length c] ++ lb) W fun e W' => e = .returned (.bool (p x)) ∧ Below w.heap.size w W') :
    Calls Try.prog 58 #[.slice A1 l1.length c1, .func (.func g) #[] lb] w fun e w' => e = .returned (.bool (l1.any p)) ∧ Below w.heap.size w w' := by
  have hcon := impl_AreTests.indexFunc g lb p A1 c1 l1 w hr eg hp
  have e1 : Aside0 (decide (fi p l1 ≥ 0) = l1.any p) := ⟨fi_ge p l1⟩
  generalize fi p l1 = r at hcon e1
  clear hr eg hp
  go_enter Try.func58, Try.ntmps58
  go_wp2_with (go_at_call 75; refine hcon.mono ?_; rintro e w' ⟨rfl, hb'⟩)
  go_ret
  exact ⟨by rw [← e1.out]; rfl, hb'⟩
def impl_AreTests.p_all (a0 : Int) (l1 : List (List Int)) : Bool := decide (1 ≤ a0) && decide (a0 ≤ 10) && (decide (l1.length ≤ 12) && l1.all fun c => !impl_AreTests.p_bad a0 c)
def impl_AreTests.f (a0 : Int) (l1 : List (List Int)) : Option Bool := if ∀ c ∈ l1, c.length ≤ 1048576 then some (impl_AreTests.p_all a0 l1) else none
theorem impl_AreTests.calls (a0 : Int) (A1 : Option Addr) (c1 : Nat) (l1 : List (List Int)) (r : Bool) (w : World) (hr1 : Kd.C (Kd.slice 3 (Kd.int .i64)) w A1 l1.length l1) (hc1 : l1.length ≤ c1) (h : impl_AreTests.f a0 l1 = some r) :
    Calls Try.prog 33 #[.int .i64 a0, .slice A1 l1.length c1] w fun e w' => e = .returned (.bool r) ∧ Below w.heap.size w w' := by
  have hlen : l1.length ≤ 9223372036854775807 := hr1.2.1
  have eg : ∀ args w, (callFunc 59 args).run Try.prog w = .ok (.enter 59 args) w := Go.Proofs.enters_of Try.func59 (by kernel_rfl) rfl
  unfold impl_AreTests.f at h
  by_cases hall : ∀ c ∈ l1, c.length ≤ 1048576
  case neg => rw [if_neg hall] at h; cases h
  rw [if_pos hall] at h
  have hask : ∀ W, Calls Try.prog 57 #[.int .i64 a0] W fun e w' => e = .returned (.bool (decide (1 ≤ a0) && decide (a0 ≤ 10))) ∧ Drawn0 W w' := fun W => by
    refine (impl_areTested.calls a0 _ W ?_).mono (fun _ _ h => h)
    unfold impl_areTested.f impl_within.f
    by_cases h : 1 ≤ a0
    · rw [if_pos h]; simp [h]
    · rw [if_neg h]; simp [h]
  have hcon : ∀ (W : World) (B : Nat), Below w.heap.size w W → B < W.heap.size → W.cell? ⟨B, 0, none⟩ = some (.int .i64 a0) → Calls Try.prog 58 #[.slice A1 l1.length c1, .func (.func 59) #[] #[.pointer (some ⟨B, 0, none⟩)]] W fun e w' => e = .returned (.bool (l1.any (impl_AreTests.p_bad a0))) ∧ Below W.heap.size W w' := fun W B hb hlt hB => by
    refine impl_AreTests.containsFunc _ _ _ A1 c1 l1 W (Kd.C_below hr1 hb) eg (fun W' A c x hm hb' hr hc => ?_)
    have hB' : W'.cell? ⟨B, 0, none⟩ = some (.int .i64 a0) := (hb'.cell (p := ⟨B, 0, none⟩) hlt).trans hB
    exact (impl_AreTests.clos a0 B A c x W' hB' (hall x hm) hr hc).mono fun e w2 ⟨he, hb2⟩ => ⟨he, below_step hb' hb2⟩
  have hr : Aside0 (r = (decide (1 ≤ a0) && decide (a0 ≤ 10) && (decide (l1.length ≤ 12) && !l1.any (impl_AreTests.p_bad a0)))) := ⟨by
    rw [← Option.some.inj h]
    unfold impl_AreTests.p_all
    rw [List.not_any_eq_all_not]⟩
  clear h hr1 eg hall
  generalize l1.any (impl_AreTests.p_bad a0) = q at hcon hr
  generalize hk : (decide (1 ≤ a0) && decide (a0 ≤ 10)) = k at hask hr
  clear hk
  have HR := hr
  clear hr
  cases k with
  | false =>
    go_enter Try.func33, Try.ntmps33
    go_wp2_with (go_at_call 57; refine (hask _).mono ?_; rintro e w' ⟨rfl, ⟨nd, rfl⟩⟩)
    go_ret
    exact ⟨by rw [HR.out]; rfl, by repeat (first | exact Below.refl _ _ | apply below_alloc | apply pw_below_drewN)⟩
  | true =>
    by_cases h20 : l1.length ≤ 12
    · have d : decide ((l1.length : Int) ≤ 12) = true := decide_eq_true (by omega)
      have d2 : decide (l1.length ≤ 12) = true := decide_eq_true h20
      have HR2 : Aside0 (r = !q) := ⟨by rw [HR.out, d2]; rfl⟩
      clear HR h20
      go_enter Try.func33, Try.ntmps33
      go_wp2_with (first | (go_at_call 57; refine (hask _).mono ?_; rintro e w' ⟨rfl, ⟨nd, rfl⟩⟩) | (go_at_call 58; (refine (hcon _ _ (by repeat (first | exact Below.refl _ _ | apply below_alloc | apply pw_below_drewN)) (by simp) (by simp)).mono ?_); rintro e w' ⟨rfl, hb⟩))
      go_ret
      exact ⟨by rw [HR2.out]; rfl, below_step (by repeat (first | exact Below.refl _ _ | apply below_alloc | apply pw_below_drewN)) hb⟩
    · have d : decide ((l1.length : Int) ≤ 12) = false := decide_eq_false (by omega)
      have d2 : decide (l1.length ≤ 12) = false := decide_eq_false h20
      have HR2 : Aside0 (r = false) := ⟨by rw [HR.out, d2]; rfl⟩
      clear HR h20
      go_enter Try.func33, Try.ntmps33
      go_wp2_with (go_at_call 57; refine (hask _).mono ?_; rintro e w' ⟨rfl, ⟨nd, rfl⟩⟩)
      go_ret
      exact ⟨by rw [HR2.out]; rfl, by repeat (first | exact Below.refl _ _ | apply below_alloc | apply pw_below_drewN)⟩


/-! ### bits_OnesCount16: function 61 -/
def bits_OnesCount16.f (a0 : Int) : Option Int := if 0 ≤ a0 ∧ a0 ≤ 65535 then some ((Lib.onesCount (a0.toNat / 256) + Lib.onesCount (a0.toNat % 256) : Nat) : Int) else none
set_option maxHeartbeats 2000000 in
set_option maxRecDepth 100000 in
theorem bits_OnesCount16.calls (a0 : Int) (r : Int) (w : World) (h : bits_OnesCount16.f a0 = some r) :
    Calls Try.prog 61 #[.int .u16 a0] w fun e w' => e = .returned (.int .i64 r) ∧ Drawn0 w w' := by
  unfold bits_OnesCount16.f at h
  split at h
  case isFalse => cases h
  rename_i hb
  cases h
  go_enter Try.func61, Try.ntmps61
  have e1 : decide (0 ≤ a0 / 256) = true := decide_eq_true (by omega)
  have e2 : decide (a0 / 256 < 256) = true := decide_eq_true (by omega)
  have hi1 : 0 ≤ a0 / 256 ∧ a0 / 256 < (Lib.pop8tab.size : Int) := by rw [Lib.pop8tab_size]; omega
  have hi2 : 0 ≤ a0 % 256 ∧ a0 % 256 < (Lib.pop8tab.size : Int) := by rw [Lib.pop8tab_size]; omega
  go_wp2
  refine start_ (n := 9) (S := fun _ => True) (ds := []) #[false, false, false, false, false, false, false, false, false] (by kernel_rfl) rfl rfl trivial (fun hHeld => ?_)
  have HD : Drawn0 w w.drew := by repeat (first | exact Drawn0.refl _ | apply Drawn0.step)
  generalize w.drew = wd at HD ⊢
  refine pure_ (i := 0) (N := some 3) (v := ?_) (a' := ?_) #[true, false, false, false, false, false, false, false, false] rfl rfl (by kernel_rfl) (fun _ _ _ h => h) (Or.inl ⟨by rfl, ?_⟩) ?_ ?_
  rotate_left
  · intro w'
    go_simp
    with_reducible rfl
  rotate_left
  · simp only [Act.put, List.setIfInBounds_toArray, List.set_cons_zero, List.set_cons_succ, i64_w, i32_w]
    rfl
  refine pure_ (i := 1) (N := some 4) (v := ?_) (a' := ?_) #[true, true, false, false, false, false, false, false, false] rfl rfl (by kernel_rfl) (fun _ _ _ h => h) (Or.inl ⟨by rfl, ?_⟩) ?_ ?_
  rotate_left
  · intro w'
    go_simp
    with_reducible rfl
  rotate_left
  · simp only [Act.put, List.setIfInBounds_toArray, List.set_cons_zero, List.set_cons_succ, i64_w, i32_w]
    rfl
  refine pure_ (i := 3) (N := some 6) (v := ?_) (a' := ?_) #[true, true, false, true, false, false, false, false, false] rfl rfl (by kernel_rfl) (fun _ _ _ h => h) (Or.inl ⟨by rfl, ?_⟩) ?_ ?_
  rotate_left
  · intro w'
    go_simp
    with_reducible rfl
  rotate_left
  · simp only [Act.put, List.setIfInBounds_toArray, List.set_cons_zero, List.set_cons_succ, i64_w, i32_w]
    rfl
  refine pure_ (i := 4) (N := some 7) (v := ?_) (a' := ?_) #[true, true, false, true, true, false, false, false, false] rfl rfl (by kernel_rfl) (fun _ _ _ h => h) (Or.inl ⟨by rfl, ?_⟩) ?_ ?_
  rotate_left
  · intro w'
    go_simp
    with_reducible rfl
  rotate_left
  · simp only [Act.put, List.setIfInBounds_toArray, List.set_cons_zero, List.set_cons_succ, i64_w, i32_w]
    rfl
  refine pure_ (i := 2) (N := some 5) (v := ?_) (a' := ?_) #[true, true, true, true, true, false, false, false, false] rfl rfl (by kernel_rfl) (fun _ _ _ h => h) (Or.inl ⟨by rfl, ?_⟩) ?_ ?_
  rotate_left
  · intro w'
    go_simp
    with_reducible rfl
  rotate_left
  · simp only [Act.put, List.setIfInBounds_toArray, List.set_cons_zero, List.set_cons_succ, i64_w, i32_w]
    rfl
  have hm : bits BinOp.and IntKind.u16 a0 255 = a0 % 256 := by
    obtain ⟨n, rfl⟩ := Int.eq_ofNat_of_zero_le hb.1
    have h1 := (bits_nat .u16 16 (by decide) (fun m h0 h1 => by rw [IntKind.wrap_u16]; simp at h1; omega) n 255 (by omega) (by decide)).1
    have h2 : n &&& 255 = n % 256 := Nat.and_two_pow_sub_one_eq_mod n 8
    rw [h2] at h1
    have h3 : ((n % 256 : Nat) : Int) = (n : Int) % 256 := by omega
    rw [← h3]
    exact h1
  rw [hm]
  refine pure_ (i := 5) (N := some 8) (v := ?_) (a' := ?_) #[true, true, true, true, true, true, false, false, false] rfl rfl (by kernel_rfl) (fun _ _ _ h => h) (Or.inl ⟨by rfl, ?_⟩) ?_ ?_
  rotate_left
  · intro w'
    go_simp
    with_reducible rfl
  rotate_left
  · simp only [Act.put, List.setIfInBounds_toArray, List.set_cons_zero, List.set_cons_succ, i64_w, i32_w]
    rfl
  refine pure_ (i := 6) (N := some 9) (v := ?_) (a' := ?_) #[true, true, true, true, true, true, true, false, false] rfl rfl (by kernel_rfl) (fun _ _ _ h => h) (Or.inl ⟨by rfl, ?_⟩) ?_ ?_
  rotate_left
  · intro w'
    go_simp
    with_reducible rfl
  rotate_left
  · simp only [Act.put, List.setIfInBounds_toArray, List.set_cons_zero, List.set_cons_succ, i64_w, i32_w]
    rfl
  refine pure_ (i := 7) (N := some 10) (v := ?_) (a' := ?_) #[true, true, true, true, true, true, true, true, false] rfl rfl (by kernel_rfl) (fun _ _ _ h => h) (Or.inl ⟨by rfl, ?_⟩) ?_ ?_
  rotate_left
  · intro w'
    go_simp
    with_reducible rfl
  rotate_left
  · simp only [Act.put, List.setIfInBounds_toArray, List.set_cons_zero, List.set_cons_succ, i64_w, i32_w]
    rfl
  refine pure_ (i := 8) (N := some 2) (v := ?_) (a' := ?_) #[true, true, true, true, true, true, true, true, true] rfl rfl (by kernel_rfl) (fun _ _ _ h => h) (Or.inl ⟨by rfl, ?_⟩) ?_ ?_
  rotate_left
  · intro w'
    go_simp
    with_reducible rfl
  rotate_left
  · simp only [Act.put, List.setIfInBounds_toArray, List.set_cons_zero, List.set_cons_succ, i64_w, i32_w]
    rfl
  refine done_ (by kernel_rfl) ?_
  go_wp2
  go_ret
  have k1 : ∀ x : Int, 0 ≤ x → x ≤ 255 → Lib.pop8 x = (Lib.onesCount x.toNat : Int) ∧ Lib.onesCount x.toNat ≤ 8 := fun x h0 h1 => by
    have e := Lib.pop8_eq ⟨x.toNat, by omega⟩
    have l := Lib.onesCount_le8 ⟨x.toNat, by omega⟩
    simp only [Int.toNat_of_nonneg h0] at e
    exact ⟨e, l⟩
  obtain ⟨k2, k3⟩ := k1 (a0 / 256) (by omega) (by omega)
  obtain ⟨k4, k5⟩ := k1 (a0 % 256) (by omega) (by omega)
  have hlt : (a0 / 256).toNat < Lib.pop8tab.size := by rw [Lib.pop8tab_size]; omega
  have k6 : ((Lib.pop8tab[(a0 / 256).toNat]'hlt).toNat : Int) = Lib.pop8 (a0 / 256) := by
    unfold Lib.pop8
    rw [getElem?_pos Lib.pop8tab (a0 / 256).toNat hlt]
    rfl
  have t1 : (a0 / 256).toNat = a0.toNat / 256 := by omega
  have t2 : (a0 % 256).toNat = a0.toNat % 256 := by omega
  rw [t1] at k2 k3
  rw [t2] at k4 k5
  have hv : wrap64 (IntKind.u8.wrap (((Lib.pop8tab[(a0 / 256).toNat]'hlt).toNat : Int) + Lib.pop8 (a0 % 256))) = ((Lib.onesCount (a0.toNat / 256) + Lib.onesCount (a0.toNat % 256) : Nat) : Int) := by
    rw [k6, k2, k4, IntKind.wrap_u8]
    unfold wrap64
    omega
  exact ⟨congrArg (fun z => Ending.returned (.int .i64 z)) hv, HD⟩


/-! ### impl_setOf: function 77 -/
def impl_setOf.l0 : Nat → Int → List Int → Int → Int → Option (Int)
  | 0, _, _, _, _ => none
  | k + 1, x3, x6, x7, x8 => if x8 < x7 then (if 0 ≤ x8 then (if x8 < (x6.length : Int) then (if 0 ≤ (rd x6 x8) then (impl_setOf.l0 k (Go.bits .or .u16 x3 (shl .u16 1 (rd x6 x8))) x6 x7 (wrap64 (x8 + 1))) else (none)) else (none)) else (none)) else (some x3)
def impl_setOf.f (k : Nat) (l0 : List Int) : Option (Int) := impl_setOf.l0 k 0 l0 (l0.length : Int) 0
theorem impl_setOf.mono_l : ∀ k, (∀ y0 y1 y2 y3, LeO (impl_setOf.l0 k y0 y1 y2 y3) (impl_setOf.l0 (k + 1) y0 y1 y2 y3))
  | 0 => fun _ _ _ _ r h => by simp [impl_setOf.l0] at h
  | k + 1 => by
    have ih0 := impl_setOf.mono_l k
    · intro y0 y1 y2 y3
      unfold impl_setOf.l0
      repeat' first
      | (with_reducible exact ih0 _ _ _ _)
      | (with_reducible exact LeO.refl _)
      | (with_reducible exact LeO.none _)
      | (with_reducible refine LeO.ite ?_ ?_)
      | (with_reducible refine LeO.bind ?_ (fun _ => ?_))
      | exact ih0 _ _ _ _
      | exact LeO.none _
      | refine LeO.ite ?_ ?_
      | refine LeO.bind ?_ (fun _ => ?_)
theorem impl_setOf.mono : ∀ a0 k, LeO (impl_setOf.f k a0) (impl_setOf.f (k + 1) a0) := by
  intro a0 k
  have ih0 := impl_setOf.mono_l k
  unfold impl_setOf.f
  repeat' first
      | (with_reducible exact ih0 _ _ _ _)
      | (with_reducible exact LeO.refl _)
      | (with_reducible exact LeO.none _)
      | (with_reducible refine LeO.ite ?_ ?_)
      | (with_reducible refine LeO.bind ?_ (fun _ => ?_))
      | exact ih0 _ _ _ _
      | exact LeO.none _
      | refine LeO.ite ?_ ?_
      | refine LeO.bind ?_ (fun _ => ?_)
set_option maxHeartbeats 8000000 in
set_option maxRecDepth 100000 in
theorem impl_setOf.calls (k : Nat) (A0 : Option Addr) (c0 : Nat) (l0 : List Int) (r : Int) (w : World) (hr0 : Kd.C (Kd.int .i64) w A0 l0.length l0) (hc0 : l0.length ≤ c0) (h : impl_setOf.f k l0 = some r) :
    Calls Try.prog 77 #[.slice A0 l0.length c0] w fun e w' => e = .returned (.int .u16 r) ∧ Drawn0 w w' := by
  have HR0 := Aside0.mk hr0
  have HC0 := Aside0.mk hc0
  clear hr0 hc0
  have H : (impl_setOf.l0 k 0 l0 (l0.length : Int) 0) = some r := h
  clear h
  have H' := Aside0.mk H
  clear H
  go_enter Try.func77, Try.ntmps77
  go_wp2
  go_loopg [3, 8] k (fun kq v3 v8 w' => ∃ (x3_1 : Int) (x8_1 : Int), v3 = .int .u16 x3_1 ∧ v8 = .int .i64 x8_1 ∧ Aside0 (impl_setOf.l0 kq x3_1 l0 (l0.length : Int) x8_1 = some r) ∧ Aside0 (kq ≤ k) ∧ Drawn0 w w')
  case atStart => exact ⟨(0), (0), (by first | rfl | (simp; done) | (simp [*]; done)), (by first | rfl | (simp; done) | (simp [*]; done)), H', ⟨Nat.le_refl _⟩, by repeat (first | exact Drawn0.refl _ | apply Drawn0.step)⟩
  case round =>
    clear H'
    obtain ⟨x3_1, x8_1, rfl, rfl, HA, HK1, ⟨m1, rfl⟩⟩ := hrel
    cases gk with
    | zero => exact absurd HA.out (by simp [impl_setOf.l0])
    | succ k1 =>
      have H := HA.out
      clear HA
      simp only [impl_setOf.l0] at H
      by_cases c2 : x8_1 < (l0.length : Int)
      · rw [if_pos c2] at H
        have c2b0 : decide (x8_1 < (l0.length : Int)) = true := decide_eq_true c2
        clear c2
        by_cases c3 : 0 ≤ x8_1
        · rw [if_pos c3] at H
          have c3b0 : decide (0 ≤ x8_1) = true := decide_eq_true c3
          clear c3
          by_cases c4 : x8_1 < (l0.length : Int)
          · rw [if_pos c4] at H
            have c4b0 : decide (x8_1 < (l0.length : Int)) = true := decide_eq_true c4
            clear c4
            by_cases c5 : 0 ≤ (rd l0 x8_1)
            · rw [if_pos c5] at H
              have c5b0 := eq_true c5
              have c5b1 : decide (0 ≤ (rd l0 x8_1)) = true := decide_eq_true c5
              clear c5
              obtain ⟨ji6, hji6⟩ : ∃ j_ : Int, (shl .u16 1 (rd l0 x8_1)) = j_ := ⟨_, rfl⟩
              replace H : (impl_setOf.l0 k1 (Go.bits .or .u16 x3_1 (ji6)) l0 (l0.length : Int) (wrap64 (x8_1 + 1))) = some r := by first | (rw [hji6] at H; exact H) | (simp only [hji6] at H ⊢; exact H)
              have hji6_ : (IntKind.u16.wrap (1 * 2 ^ min (rd l0 x8_1).toNat 16)) = ji6 := hji6
              have hji6z : (rd l0 x8_1) ≤ 16 → (IntKind.u16.wrap (1 * 2 ^ (rd l0 x8_1).toNat)) = ji6 := shl_small hji6
              have hji6u : (IntKind.u16.wrap (2 ^ min (rd l0 x8_1).toNat 16)) = ji6 := by have h_ := hji6_; rw [Int.one_mul] at h_; exact h_
              have hji6v : (rd l0 x8_1) ≤ 16 → (IntKind.u16.wrap (2 ^ (rd l0 x8_1).toNat)) = ji6 := fun hle_ => by have h_ := hji6z hle_; rw [Int.one_mul] at h_; exact h_
              have H' := Aside0.mk H
              clear H
              have p164 : 0 ≤ (x8_1 : Int) := of_decide_eq_true (by first | (with_reducible assumption) | assumption)
              have q164 : x8_1 < (l0.length : Int) := of_decide_eq_true (by first | (with_reducible assumption) | assumption)
              obtain ⟨ad164, e164, hx164_0⟩ := Kd.at_int HR0.out x8_1 p164 q164
              cases e164
              replace p164 := eq_true p164
              replace q164 := eq_true q164
              go_wp2
              go_roundg k1
              case measure => have := HK1.out; omega
              case rel => exact ⟨(Go.bits .or .u16 x3_1 (ji6)), (wrap64 (x8_1 + 1)), (by first | rfl | (simp; done) | (simp only [← hji6] <;> (first | rfl | simp)) | (simp [*]; done)), (by first | rfl | (simp; done) | (simp [*]; done)), H', ⟨by have := HK1.out; omega⟩, by repeat (first | exact Drawn0.refl _ | apply Drawn0.step)⟩
            · rw [if_neg c5] at H
              exact absurd H (by simp)
          · rw [if_neg c4] at H
            exact absurd H (by simp)
        · rw [if_neg c3] at H
          exact absurd H (by simp)
      · rw [if_neg c2] at H
        have c2b0 : decide (x8_1 < (l0.length : Int)) = false := decide_eq_false c2
        clear c2
        obtain rfl := Option.some.inj H
        go_wp2
        go_ret
        exact ⟨by first | rfl | (simp; done) | (simp [*]; done), by repeat (first | exact Drawn0.refl _ | apply Drawn0.step)⟩

/-! ### impl_results: function 62 -/
def impl_results.l0 : Nat → Int → List Int → List (List Int) → Int → Int → Option (ByteArray)
  | 0, _, _, _, _, _ => none
  | k + 1, x1, x5, x9, x10, x11 => if x11 < x10 then (if 0 ≤ x11 then (if x11 < (x9.length : Int) then ((impl_setOf.f k (rd_L1 x9 x11)).bind fun t169 => (if (Go.bits .and .u16 t169 x1) = 0 then (if x5.length < 140737488355328 then (impl_results.l0 k x1 (x5 ++ [48]) x9 x10 (wrap64 (x11 + 1))) else (none)) else (if x5.length < 140737488355328 then (impl_results.l0 k x1 (x5 ++ [49]) x9 x10 (wrap64 (x11 + 1))) else (none)))) else (none)) else (none)) else (some (strOfNums x5))
def impl_results.f (k : Nat) (l0 : List (List Int)) (a1 : Int) : Option (ByteArray) := impl_results.l0 k a1 (([] : List Int)) l0 (l0.length : Int) 0
theorem impl_results.mono_l : ∀ k, (∀ y0 y1 y2 y3 y4, LeO (impl_results.l0 k y0 y1 y2 y3 y4) (impl_results.l0 (k + 1) y0 y1 y2 y3 y4))
  | 0 => fun _ _ _ _ _ r h => by simp [impl_results.l0] at h
  | k + 1 => by
    have ih0 := impl_results.mono_l k
    · intro y0 y1 y2 y3 y4
      unfold impl_results.l0
      repeat' first
      | (with_reducible exact ih0 _ _ _ _ _)
      | (with_reducible exact impl_setOf.mono _ _)
      | (with_reducible exact LeO.refl _)
      | (with_reducible exact LeO.none _)
      | (with_reducible refine LeO.ite ?_ ?_)
      | (with_reducible refine LeO.bind ?_ (fun _ => ?_))
      | exact ih0 _ _ _ _ _
      | exact impl_setOf.mono _ _
      | exact LeO.none _
      | refine LeO.ite ?_ ?_
      | refine LeO.bind ?_ (fun _ => ?_)
theorem impl_results.mono : ∀ a0 a1 k, LeO (impl_results.f k a0 a1) (impl_results.f (k + 1) a0 a1) := by
  intro a0 a1 k
  have ih0 := impl_results.mono_l k
  unfold impl_results.f
  repeat' first
      | (with_reducible exact ih0 _ _ _ _ _)
      | (with_reducible exact impl_setOf.mono _ _)
      | (with_reducible exact LeO.refl _)
      | (with_reducible exact LeO.none _)
      | (with_reducible refine LeO.ite ?_ ?_)
      | (with_reducible refine LeO.bind ?_ (fun _ => ?_))
      | exact ih0 _ _ _ _ _
      | exact impl_setOf.mono _ _
      | exact LeO.none _
      | refine LeO.ite ?_ ?_
      | refine LeO.bind ?_ (fun _ => ?_)
set_option maxHeartbeats 8000000 in
set_option maxRecDepth 100000 in
theorem impl_results.calls (k : Nat) (A0 : Option Addr) (c0 : Nat) (l0 : List (List Int)) (a1 : Int) (r : ByteArray) (w : World) (hr0 : Kd.C (Kd.slice 3 (Kd.int .i64)) w A0 l0.length l0) (hc0 : l0.length ≤ c0) (h : impl_results.f k l0 a1 = some r) :
    Calls Try.prog 62 #[.slice A0 l0.length c0, .int .u16 a1] w fun e w' => e = .returned (.string r) ∧ Below w.heap.size w w' := by
  have HR0 := Aside0.mk hr0
  have HC0 := Aside0.mk hc0
  clear hr0 hc0
  have HB := Aside0.mk (Below.refl w.heap.size w)
  have H : (impl_results.l0 k a1 (([] : List Int)) l0 (l0.length : Int) 0) = some r := h
  clear h
  obtain ⟨y165, hy165⟩ : ∃ y_ : List Int, y_ = (([] : List Int)) := ⟨_, rfl⟩
  replace H : (impl_results.l0 k a1 y165 l0 (l0.length : Int) 0) = some r := by first | (rw [hy165]; with_reducible exact H) | (have H2_ := (Option.bind_some _ _).symm.trans H; rw [hy165]; with_reducible exact H2_) | (have H2_ := (Option.bind_some _ _).symm.trans H; with_reducible exact H2_) | with_reducible exact H | (rw [hy165]; exact H) | exact H
  have Ny165 := Aside0.mk hy165
  clear hy165
  have H' := Aside0.mk H
  clear H
  go_enter Try.func62, Try.ntmps62
  go_wp2_with (first | ((with_reducible refine gate_dst (N := 8) rfl ?_); refine Kd.R_lit (Kd.int .u8) _ 5 ?hg (N := 8) ?hd (xs := ([] : List Int)) (inner := []) (ok := fun _ => True) (okp := fun _ => True) ?hr ?hp (fun _ hk => hk) trivial (Below.refl _ _) (Nat.le_refl _) (by simp) ?_; (case hd => rfl); (case hg => rfl); (case hr => first | (go_simp; done) | (go_simp; rfl)); (case hp => exact (Reps.none _ _)); intro v166 w3 ho4 hb hg_ hnew_; clear hg_ hnew_; (first | rw [← Ny165.out] at ho4 | (simp only [Int.reduceToNat] at ho4; rw [← Ny165.out] at ho4)); have n0_ := Aside0.mk (Kd.R_lower ho4 (below_size (by repeat (first | (with_reducible first | exact HB.out | apply below_alloc | apply pw_below_drewN | apply below_drew1) | exact HB.out)))); have n1_ := Aside0.mk (below_step (by repeat (first | (with_reducible first | exact HB.out | apply below_alloc | apply pw_below_drewN | apply below_drew1) | exact HB.out)) hb); clear HB; have HO167 := n0_; have HB := n1_; clear n0_ n1_; clear hb ho4))
  go_loopg [5, 11] k (fun kq v5 v11 w' => ∃ (x5_1 : List Int) (x11_1 : Int), v11 = .int .i64 x11_1 ∧ Aside0 (impl_results.l0 kq a1 x5_1 l0 (l0.length : Int) x11_1 = some r) ∧ Aside0 (kq ≤ k) ∧ Aside0 (Kd.R (Kd.int .u8) 5 w' w.heap.size (fun _ => True) v5 x5_1) ∧ Aside0 (Below w.heap.size w w'))
  case atStart => exact ⟨(y165), (0), (by first | rfl | (simp; done) | (simp [*]; done)), H', ⟨Nat.le_refl _⟩, ⟨by (with_reducible repeat (first | apply Kd.R_alloc | apply Kd.R_drewN | apply Kd.R_drew)); exact HO167.out⟩, ⟨by repeat (first | (with_reducible first | exact HB.out | apply below_alloc | apply pw_below_drewN | apply below_drew1) | exact HB.out)⟩⟩
  case round =>
    clear H'
    try clear p2
    obtain ⟨x5_1, x11_1, rfl, HA, HK1, HO_5, HB⟩ := hrel
    cases gk with
    | zero => exact absurd HA.out (by simp [impl_results.l0])
    | succ k1 =>
      have H := HA.out
      clear HA
      simp only [impl_results.l0] at H
      by_cases c5 : x11_1 < (l0.length : Int)
      · rw [if_pos c5] at H
        have c5b0 : decide (x11_1 < (l0.length : Int)) = true := decide_eq_true c5
        clear c5
        by_cases c6 : 0 ≤ x11_1
        · rw [if_pos c6] at H
          have c6b0 : decide (0 ≤ x11_1) = true := decide_eq_true c6
          clear c6
          by_cases c7 : x11_1 < (l0.length : Int)
          · rw [if_pos c7] at H
            have c7b0 : decide (x11_1 < (l0.length : Int)) = true := decide_eq_true c7
            clear c7
            replace H := Option.bind_eq_some_iff.mp H
            obtain ⟨t169, A80, H⟩ := H
            replace H : (if (Go.bits .and .u16 t169 a1) = 0 then (if x5_1.length < 140737488355328 then (impl_results.l0 k1 a1 (x5_1 ++ [48]) l0 (l0.length : Int) (wrap64 (x11_1 + 1))) else (none)) else (if x5_1.length < 140737488355328 then (impl_results.l0 k1 a1 (x5_1 ++ [49]) l0 (l0.length : Int) (wrap64 (x11_1 + 1))) else (none))) = some r := H
            have A8 := Aside0.mk A80
            clear A80
            by_cases c9 : (Go.bits .and .u16 t169 a1) = 0
            · rw [if_pos c9] at H
              have c9b0 : ((Go.bits .and .u16 t169 a1) == 0) = true := beq_iff_eq.mpr c9
              have c9b1 : ((Go.bits .and .u16 t169 a1) != 0) = false := bne_eq_false_iff_eq.mpr c9
              clear c9
              by_cases c10 : x5_1.length < 140737488355328
              · rw [if_pos c10] at H
                have LMc10 := Aside0.mk c10
                clear c10
                obtain ⟨y170, hy170⟩ : ∃ y_ : List Int, y_ = (x5_1 ++ [48]) := ⟨_, rfl⟩
                replace H : (impl_results.l0 k1 a1 y170 l0 (l0.length : Int) (wrap64 (x11_1 + 1))) = some r := by first | (rw [hy170]; with_reducible exact H) | (have H2_ := (Option.bind_some _ _).symm.trans H; rw [hy170]; with_reducible exact H2_) | (have H2_ := (Option.bind_some _ _).symm.trans H; with_reducible exact H2_) | with_reducible exact H | (rw [hy170]; exact H) | exact H
                have Ny170 := Aside0.mk hy170
                clear hy170
                have H' := Aside0.mk H
                clear H
                have p168 : 0 ≤ (x11_1 : Int) := of_decide_eq_true (by first | (with_reducible assumption) | assumption)
                have q168 : x11_1 < (l0.length : Int) := of_decide_eq_true (by first | (with_reducible assumption) | assumption)
                obtain ⟨ad168, A168_0, c168_0, e168, hx168_0, hl168_0, hi168_0⟩ := at_L1 HR0.out x11_1 p168 q168
                cases e168
                replace hx168_0 := (HB.out.cell (World.block_lt_of_cell? w _ hx168_0)).trans hx168_0
                have HR168_0 := Aside0.mk hi168_0
                have HC168_0 := Aside0.mk hl168_0
                clear hi168_0 hl168_0
                replace p168 := eq_true p168
                replace q168 := eq_true q168
                go_wp2_with (first | ((with_reducible refine gate_callee (f := 77) rfl ?_); refine goesL_ (some 16) rfl rfl Try.func77 (by kernel_rfl) rfl #[.slice A168_0 (rd_L1 l0 x11_1).length c168_0] rfl (by (try simp only [List.map_toArray, List.map_cons, List.map_nil]); first | done | rfl | (simp only [List.length_drop, List.length_take]; rfl) | (simp; done) | (refine congrArg Value.bool ?_; simp; done) | (refine congrArg (fun z_ => #[Value.bool z_]) ?_; simp; done)) ?_; (with_reducible refine (impl_setOf.calls k1 _ _ (rd_L1 l0 x11_1) t169 _ ?side1 ?side2 A8.out).mono ?_); (case side1 => repeat (first | exact (Kd.C_below HR168_0.out HB.out) | (with_reducible refine Kd.C_alloc ?_ _) | (with_reducible refine Kd.C_drewN ?_ _) | (with_reducible refine Kd.C_drew ?_))); (case side2 => exact HC168_0.out); rintro e w' ⟨rfl, ⟨nd, rfl⟩⟩; refine ⟨_, rfl, ?_⟩) | ((with_reducible refine gate_builtin (b := .append) (xs := #[.tmp 23, .tmp 24]) rfl ?_); at_builtin; refine Kd.R_append (Kd.int .u8) (w0 := w) w.heap.size rfl (.tmp 23) (.tmp 24) 55 5 (.int .u8 0) 1 rfl Try.underlying55 info5 rfl (by decide) (by omega) u5 x5_1 48 [.int .u8 48] (fun _ => True) (fun _ => False) rfl rfl ?aP (fun _ hk => hk.elim) ?aF ?aO ?aB ?aS ?aL ?_; (case aP => exact rfl); (case aB => exact (by repeat (first | (with_reducible first | exact HB.out | apply below_alloc | apply pw_below_drewN | apply below_drew1) | exact HB.out))); (case aF => exact (fun _ _ => trivial)); (case aO => exact (by (with_reducible repeat (first | apply Kd.R_alloc | apply Kd.R_drewN | apply Kd.R_drew)); exact HO_5.out)); (case aS => exact (below_size (by repeat (first | (with_reducible first | exact HB.out | apply below_alloc | apply pw_below_drewN | apply below_drew1) | exact HB.out)))); (case aL => have := LMc10.out; omega); intro v171 w11 ho hb hg hat; rw [← Ny170.out] at ho; have n0_ := Aside0.mk (hb); have n1_ := Aside0.mk (ho); clear HB; clear HO_5; have HB := n0_; have HO172 := n1_; clear n0_ n1_; clear ho hb hg hat))
                go_roundg k1
                case measure => have := HK1.out; omega
                case rel => exact ⟨(y170), (wrap64 (x11_1 + 1)), (by first | rfl | (simp; done) | (simp [*]; done)), H', ⟨by have := HK1.out; omega⟩, ⟨by (with_reducible repeat (first | apply Kd.R_alloc | apply Kd.R_drewN | apply Kd.R_drew)); exact HO172.out⟩, ⟨by repeat (first | (with_reducible first | exact HB.out | apply below_alloc | apply pw_below_drewN | apply below_drew1) | exact HB.out)⟩⟩
              · rw [if_neg c10] at H
                exact absurd H (by simp)
            · rw [if_neg c9] at H
              have c9b0 : ((Go.bits .and .u16 t169 a1) == 0) = false := beq_eq_false_iff_ne.mpr c9
              have c9b1 : ((Go.bits .and .u16 t169 a1) != 0) = true := bne_iff_ne.mpr c9
              by_cases c12 : x5_1.length < 140737488355328
              · rw [if_pos c12] at H
                have LMc12 := Aside0.mk c12
                clear c12
                obtain ⟨y173, hy173⟩ : ∃ y_ : List Int, y_ = (x5_1 ++ [49]) := ⟨_, rfl⟩
                replace H : (impl_results.l0 k1 a1 y173 l0 (l0.length : Int) (wrap64 (x11_1 + 1))) = some r := by first | (rw [hy173]; with_reducible exact H) | (have H2_ := (Option.bind_some _ _).symm.trans H; rw [hy173]; with_reducible exact H2_) | (have H2_ := (Option.bind_some _ _).symm.trans H; with_reducible exact H2_) | with_reducible exact H | (rw [hy173]; exact H) | exact H
                have Ny173 := Aside0.mk hy173
                clear hy173
                have H' := Aside0.mk H
                clear H
                have p168 : 0 ≤ (x11_1 : Int) := of_decide_eq_true (by first | (with_reducible assumption) | assumption)
                have q168 : x11_1 < (l0.length : Int) := of_decide_eq_true (by first | (with_reducible assumption) | assumption)
                obtain ⟨ad168, A168_0, c168_0, e168, hx168_0, hl168_0, hi168_0⟩ := at_L1 HR0.out x11_1 p168 q168
                cases e168
                replace hx168_0 := (HB.out.cell (World.block_lt_of_cell? w _ hx168_0)).trans hx168_0
                have HR168_0 := Aside0.mk hi168_0
                have HC168_0 := Aside0.mk hl168_0
                clear hi168_0 hl168_0
                replace p168 := eq_true p168
                replace q168 := eq_true q168
                go_wp2_with (first | ((with_reducible refine gate_callee (f := 77) rfl ?_); refine goesL_ (some 16) rfl rfl Try.func77 (by kernel_rfl) rfl #[.slice A168_0 (rd_L1 l0 x11_1).length c168_0] rfl (by (try simp only [List.map_toArray, List.map_cons, List.map_nil]); first | done | rfl | (simp only [List.length_drop, List.length_take]; rfl) | (simp; done) | (refine congrArg Value.bool ?_; simp; done) | (refine congrArg (fun z_ => #[Value.bool z_]) ?_; simp; done)) ?_; (with_reducible refine (impl_setOf.calls k1 _ _ (rd_L1 l0 x11_1) t169 _ ?side1 ?side2 A8.out).mono ?_); (case side1 => repeat (first | exact (Kd.C_below HR168_0.out HB.out) | (with_reducible refine Kd.C_alloc ?_ _) | (with_reducible refine Kd.C_drewN ?_ _) | (with_reducible refine Kd.C_drew ?_))); (case side2 => exact HC168_0.out); rintro e w' ⟨rfl, ⟨nd, rfl⟩⟩; refine ⟨_, rfl, ?_⟩) | ((with_reducible refine gate_builtin (b := .append) (xs := #[.tmp 20, .tmp 21]) rfl ?_); at_builtin; refine Kd.R_append (Kd.int .u8) (w0 := w) w.heap.size rfl (.tmp 20) (.tmp 21) 55 5 (.int .u8 0) 1 rfl Try.underlying55 info5 rfl (by decide) (by omega) u5 x5_1 49 [.int .u8 49] (fun _ => True) (fun _ => False) rfl rfl ?aP (fun _ hk => hk.elim) ?aF ?aO ?aB ?aS ?aL ?_; (case aP => exact rfl); (case aB => exact (by repeat (first | (with_reducible first | exact HB.out | apply below_alloc | apply pw_below_drewN | apply below_drew1) | exact HB.out))); (case aF => exact (fun _ _ => trivial)); (case aO => exact (by (with_reducible repeat (first | apply Kd.R_alloc | apply Kd.R_drewN | apply Kd.R_drew)); exact HO_5.out)); (case aS => exact (below_size (by repeat (first | (with_reducible first | exact HB.out | apply below_alloc | apply pw_below_drewN | apply below_drew1) | exact HB.out)))); (case aL => have := LMc12.out; omega); intro v174 w13 ho hb hg hat; rw [← Ny173.out] at ho; have n0_ := Aside0.mk (hb); have n1_ := Aside0.mk (ho); clear HB; clear HO_5; have HB := n0_; have HO175 := n1_; clear n0_ n1_; clear ho hb hg hat))
                go_roundg k1
                case measure => have := HK1.out; omega
                case rel => exact ⟨(y173), (wrap64 (x11_1 + 1)), (by first | rfl | (simp; done) | (simp [*]; done)), H', ⟨by have := HK1.out; omega⟩, ⟨by (with_reducible repeat (first | apply Kd.R_alloc | apply Kd.R_drewN | apply Kd.R_drew)); exact HO175.out⟩, ⟨by repeat (first | (with_reducible first | exact HB.out | apply below_alloc | apply pw_below_drewN | apply below_drew1) | exact HB.out)⟩⟩
              · rw [if_neg c12] at H
                exact absurd H (by simp)
          · rw [if_neg c7] at H
            exact absurd H (by simp)
        · rw [if_neg c6] at H
          exact absurd H (by simp)
      · rw [if_neg c5] at H
        have c5b0 : decide (x11_1 < (l0.length : Int)) = false := decide_eq_false c5
        clear c5
        obtain rfl := Option.some.inj H
        have hcv14 := own_string (P := Try.prog) Try.underlying55 Try.underlying5 Try.underlying9 (Kd.own_of_R HO_5.out)
        go_wp2
        go_ret
        exact ⟨by first | rfl | (simp [errW_none, errW_some] <;> rfl) | (simp [*, errW_none, errW_some] <;> rfl), by repeat (first | (with_reducible first | exact HB.out | apply below_alloc | apply pw_below_drewN | apply below_drew1) | exact HB.out)⟩

/-! ### impl_tellsUpTo: function 35 -/
section
open Go.Maps
/-- A look-up of a bool in a map of the call's own. -/
theorem impl_tellsUpTo.lookup_bool {H : Type} {P : Program} {w : World} {k t e b n : Nat} {D : DataW H} (h : w.ownsMap P k (plainElem P e) b n D) (K : Keyed P k) (ht : P.underlying t = some (.map k e)) (he : P.underlying e = some .bool) (hz : (zeroValue e).run P w = .ok (.bool false) w)
    {key : Value} {kl : Lit} (hkey : keyOf P k key = some kl) : ∃ c : Bool, (Instr.lookup t (.map (some b)) key false).run P w = .ok (.bool c) w ∧ D.atKey kl (.lit (.bool false)) = .lit (.bool c) := by
  obtain ⟨v, ps, hrun, hv⟩ := h.lookup K ht hz (plainElem_bool he false) hkey
  unfold plainElem at hv
  rw [he] at hv
  cases v <;> simp at hv
  rename_i c
  exact ⟨c, hrun, hv.1.symm⟩
theorem impl_tellsUpTo.zero4 (w : World) : (zeroValue 4).run Try.prog w = .ok (.bool false) w := by kernel_rfl
/-- The block is a map, and holds of the texts seen, true. -/
def impl_tellsUpTo.Inv (w : World) (b : Nat) (seen : List (List UInt8)) : Prop := ∃ D : DataW Unit, w.ownsMap Try.prog 9 (plainElem Try.prog 4) b seen.length D ∧ IsMap D ∧ ∀ k, D.atKey (.string k) (.lit (.bool false)) = .lit (.bool (decide (k ∈ seen)))
theorem impl_tellsUpTo.Inv.below {w w' : World} {b : Nat} {seen : List (List UInt8)} (h : impl_tellsUpTo.Inv w b seen) (hb : Below w.heap.size w w') : impl_tellsUpTo.Inv w' b seen := by
  obtain ⟨D, h1, h2, h3⟩ := h
  exact ⟨D, h1.kept (row := none) ⟨hb.os, hb.tape, hb.output, hb.size, fun i hi _ => hb.block i hi⟩ (by simp), h2, h3⟩
theorem impl_tellsUpTo.Inv.put {w : World} {b : Nat} {seen : List (List UInt8)} {key : List UInt8} {D : DataW Unit} (h1 : w.ownsMap Try.prog 9 (plainElem Try.prog 4) b (seen.length + 1) (D.put (.string key) (.lit (.bool true)))) (h2 : IsMap D) (h3 : ∀ k, D.atKey (.string k) (.lit (.bool false)) = .lit (.bool (decide (k ∈ seen)))) : impl_tellsUpTo.Inv w b (seen ++ [key]) := by
  refine ⟨_, by rw [List.length_append]; exact h1, h2.put _ _, fun k => ?_⟩
  by_cases e : k = key
  · subst e
    rw [atKey_put_same h2 (by simp [WideAt.IsKeyLit])]
    simp
  · rw [atKey_put_other (by intro h; injection h with h; exact e h), h3]
    simp [e]
theorem impl_tellsUpTo.Inv.made (w : World) : impl_tellsUpTo.Inv (w.alloc (.map #[] 0)) w.heap.size [] := ⟨_, World.ownsMap_made w _ _ _, isMap_empty, fun k => by simp [DataW.atKey]⟩
end
def impl_tellsUpTo.l0 : Nat → List (List Int) → Int → Int → List (List UInt8) → Int → Option Bool
  | 0, _, _, _, _, _ => none
  | k + 1, l1, most, lim, seen, set => if set < lim then (bits_OnesCount16.f set).bind fun c => (if c > most then impl_tellsUpTo.l0 k l1 most lim seen (IntKind.u16.wrap (set + 1)) else (impl_results.f k l1 set).bind fun key => (if key.size ≤ maxLen ∧ seen.length < 1000000 then (if key.data.toList ∈ seen then some false else impl_tellsUpTo.l0 k l1 most lim (seen ++ [key.data.toList]) (IntKind.u16.wrap (set + 1))) else none)) else some true
def impl_tellsUpTo.f (k : Nat) (a0 : Int) (l1 : List (List Int)) (a2 : Int) : Option Bool := if 0 ≤ a0 ∧ a0 ≤ 15 then impl_tellsUpTo.l0 k l1 a2 (shl .u16 1 a0) [] 0 else none
theorem impl_tellsUpTo.mono_l : ∀ k l1 most lim seen set, LeO (impl_tellsUpTo.l0 k l1 most lim seen set) (impl_tellsUpTo.l0 (k + 1) l1 most lim seen set)
  | 0, _, _, _, _, _ => fun r h => by simp [impl_tellsUpTo.l0] at h
  | k + 1, l1, most, lim, seen, set => by
    unfold impl_tellsUpTo.l0
    exact LeO.ite (LeO.bind (LeO.refl _) (fun _ => LeO.ite (impl_tellsUpTo.mono_l k _ _ _ _ _) (LeO.bind (impl_results.mono _ _ _) (fun _ => LeO.ite (LeO.ite (LeO.refl _) (impl_tellsUpTo.mono_l k _ _ _ _ _)) (LeO.none _))))) (LeO.refl _)
theorem impl_tellsUpTo.mono : ∀ a0 l1 a2 k, LeO (impl_tellsUpTo.f k a0 l1 a2) (impl_tellsUpTo.f (k + 1) a0 l1 a2) := fun _ _ _ k => LeO.ite (impl_tellsUpTo.mono_l k _ _ _ _ _) (LeO.none _)
set_option maxHeartbeats 2000000 in
set_option maxRecDepth 100000 in
theorem impl_tellsUpTo.calls (k : Nat) (a0 : Int) (A1 : Option Addr) (c1 : Nat) (l1 : List (List Int)) (a2 : Int) (r : Bool) (w : World) (hr1 : Kd.C (Kd.slice 3 (Kd.int .i64)) w A1 l1.length l1) (hc1 : l1.length ≤ c1) (h : impl_tellsUpTo.f k a0 l1 a2 = some r) :
    Calls Try.prog 35 #[.int .i64 a0, .slice A1 l1.length c1, .int .i64 a2] w fun e w' => e = .returned (.bool r) ∧ Below w.heap.size w w' := by
  unfold impl_tellsUpTo.f at h
  split at h
  case isFalse => cases h
  rename_i hb
  have H := Aside0.mk h
  have HR := Aside0.mk hr1
  have HC := Aside0.mk hc1
  have hmm := @run_makeMap Try.prog
  clear h hr1 hc1
  go_enter Try.func35, Try.ntmps35
  have hs0 : shl .u16 1 a0 = IntKind.u16.wrap (2 ^ a0.toNat) := by unfold shl; rw [Nat.min_eq_left (by simp only [IntKind.bits]; omega), Int.one_mul]
  rw [hs0] at H
  clear hs0
  have M0 : Aside0 (impl_tellsUpTo.Inv (w.alloc (.map #[] 0)) w.heap.size []) := ⟨impl_tellsUpTo.Inv.made w⟩
  have B0 : Aside0 (Below w.heap.size w (w.alloc (.map #[] 0))) := ⟨(Below.refl _ _).alloc (Nat.le_refl _) _⟩
  have S0 : Aside0 (0 ≤ (0 : Int)) := ⟨Int.le_refl _⟩
  go_wp2
  clear hmm
  generalize w.alloc (.map #[] 0) = w1 at M0 B0 ⊢
  generalize hlim : IntKind.u16.wrap (2 ^ a0.toNat) = lim at H ⊢
  go_loopg [13] k (fun gg v13 wr => ∃ (set : Int) (seen : List (List UInt8)), v13 = .int .u16 set ∧ Aside0 (impl_tellsUpTo.l0 gg l1 a2 lim seen set = some r) ∧ Aside0 (impl_tellsUpTo.Inv wr w.heap.size seen) ∧ Aside0 (Below w.heap.size w wr))
  case atStart => exact ⟨0, [], rfl, H, M0, B0⟩
  case round =>
    clear M0 B0 S0 H
    obtain ⟨set, seen, rfl, HA, M, BW⟩ := hrel
    cases gk with
    | zero => exact absurd HA.out (by simp [impl_tellsUpTo.l0])
    | succ k1 =>
      have H := HA.out
      clear HA
      simp only [impl_tellsUpTo.l0] at H
      by_cases b0 : set < lim
      · rw [if_pos b0] at H
        replace H := Option.bind_eq_some_iff.mp H
        obtain ⟨c, hc, H⟩ := H
        have b0b := decide_eq_true b0
        have HC1 := Aside0.mk hc
        clear hc b0
        by_cases b1 : a2 < c
        · rw [if_pos b1] at H
          have b1b := decide_eq_true b1
          have H' := Aside0.mk H
          clear b1 H
          go_wp2_with fail
          refine (bits_OnesCount16.calls set c _ HC1.out).mono ?_
          rintro e w3 ⟨rfl, ⟨nd, rfl⟩⟩
          have B3 := Aside0.mk (pw_below_drewN (Below.refl wr.heap.size wr) nd)
          have M3 := Aside0.mk (M.out.below B3.out)
          have BW3 := Aside0.mk (below_step BW.out B3.out)
          generalize wr.drewN nd = w3 at M3 BW3 ⊢
          clear M BW B3
          go_wp2
          go_roundg k1
          case measure => omega
          case rel => exact ⟨_, seen, rfl, H', M3, BW3⟩
        · rw [if_neg b1] at H
          have b1b := decide_eq_false b1
          replace H := Option.bind_eq_some_iff.mp H
          obtain ⟨key, hkey, H⟩ := H
          by_cases b2 : key.size ≤ maxLen ∧ seen.length < 1000000
          case neg => rw [if_neg b2] at H; cases H
          rw [if_pos b2] at H
          have HK := Aside0.mk hkey
          have H2 := Aside0.mk b2
          have H' := Aside0.mk H
          clear H hkey b2 b1
          go_wp2_with fail
          refine (bits_OnesCount16.calls set c _ HC1.out).mono ?_
          rintro e w3 ⟨rfl, ⟨nd, rfl⟩⟩
          have B3 := Aside0.mk (pw_below_drewN (Below.refl wr.heap.size wr) nd)
          have M3 := Aside0.mk (M.out.below B3.out)
          have BW3 := Aside0.mk (below_step BW.out B3.out)
          generalize wr.drewN nd = w3 at M3 BW3 ⊢
          clear M BW B3
          go_wp2_with fail
          refine (impl_results.calls k1 A1 c1 l1 set key w3 (Kd.C_below HR.out BW3.out) HC.out HK.out).mono ?_
          rintro e w4 ⟨rfl, hb⟩
          have M4 := Aside0.mk (M3.out.below hb)
          have BW4 := Aside0.mk (below_step BW3.out hb)
          clear hb M3 BW3
          have hkl : keyOf Try.prog 9 (.string key) = some (.string key.data.toList) := by
            have := H2.out.1
            simp [keyOf, mapKey, Try.underlying9, this]
          obtain ⟨D, hown, hD, hat⟩ := M4.out
          obtain ⟨q, hrun, hq⟩ := impl_tellsUpTo.lookup_bool hown (Go.Maps.string_keyed Try.underlying9) Try.underlying60 Try.underlying4 (impl_tellsUpTo.zero4 _) hkl
          rw [hat] at hq
          have hq' : q = decide (key.data.toList ∈ seen) := by injection hq with hq; injection hq with hq; exact hq.symm
          clear hq
          by_cases b3 : key.data.toList ∈ seen
          · rw [decide_eq_true b3] at hq'
            subst hq'
            have h := H'.out
            rw [if_pos b3] at h
            obtain rfl := Option.some.inj h
            clear h
            go_wp2
            go_ret
            exact ⟨rfl, BW4.out⟩
          · rw [decide_eq_false b3] at hq'
            subst hq'
            have h := H'.out
            rw [if_neg b3] at h
            have H6 := Aside0.mk h
            obtain ⟨w5, hupd, hown5, hg5⟩ := hown.update (Go.Maps.string_keyed Try.underlying9) Try.underlying60 (by have := H2.out.2; simp only [maxLen]; omega) hkl (plainElem_bool Try.underlying4 true)
            have BW5 := Aside0.mk (BW4.out.grown hg5 BW4.out.size (fun k hk => by injection hk with hk; omega))
            have M5 : Aside0 (impl_tellsUpTo.Inv w5 w.heap.size (seen ++ [key.data.toList])) := ⟨impl_tellsUpTo.Inv.put hown5 hD hat⟩
            clear h H' hown hat hown5 hg5 hD BW4 M4
            go_wp2
            go_roundg k1
            case measure => omega
            case rel => exact ⟨_, _, rfl, H6, M5, BW5⟩
      · rw [if_neg b0] at H
        have b0b := decide_eq_false b0
        obtain rfl := Option.some.inj H
        clear b0 H
        go_wp2
        go_ret
        exact ⟨rfl, BW.out⟩


/-! ### impl_TellsUpTo: function 12 -/
def impl_TellsUpTo.f (k : Nat) (a0 : Int) (l1 : List (List Int)) (a2 : Int) : Option (Bool × Bool) := (impl_AreTests.f a0 l1).bind fun t176 => (if t176 = true then ((impl_within.f a2 0 a0).bind fun t177 => (if t177 = true then ((impl_tellsUpTo.f k a0 l1 a2).bind fun t178 => (some (t178, true))) else (some (false, false)))) else (some (false, false)))
theorem impl_TellsUpTo.mono : ∀ a0 a1 a2 k, LeO (impl_TellsUpTo.f k a0 a1 a2) (impl_TellsUpTo.f (k + 1) a0 a1 a2) := by
  intro a0 a1 a2 k
  unfold impl_TellsUpTo.f
  repeat' first
      | (with_reducible exact impl_tellsUpTo.mono _ _ _ _)
      | (with_reducible exact LeO.refl _)
      | (with_reducible exact LeO.none _)
      | (with_reducible refine LeO.ite ?_ ?_)
      | (with_reducible refine LeO.bind ?_ (fun _ => ?_))
      | exact impl_tellsUpTo.mono _ _ _ _
      | exact LeO.none _
      | refine LeO.ite ?_ ?_
      | refine LeO.bind ?_ (fun _ => ?_)
set_option maxHeartbeats 8000000 in
set_option maxRecDepth 100000 in
theorem impl_TellsUpTo.calls (k : Nat) (a0 : Int) (A1 : Option Addr) (c1 : Nat) (l1 : List (List Int)) (a2 : Int) (r1 : Bool) (r2 : Bool) (w : World) (hr1 : Kd.C (Kd.slice 3 (Kd.int .i64)) w A1 l1.length l1) (hc1 : l1.length ≤ c1) (h : impl_TellsUpTo.f k a0 l1 a2 = some (r1, r2)) :
    Calls Try.prog 12 #[.int .i64 a0, .slice A1 l1.length c1, .int .i64 a2] w fun e w' => e = .returned (.tuple #[.bool r1, .bool r2]) ∧ Below w.heap.size w w' := by
  have HR1 := Aside0.mk hr1
  have HC1 := Aside0.mk hc1
  clear hr1 hc1
  have HB := Aside0.mk (Below.refl w.heap.size w)
  have H : ((impl_AreTests.f a0 l1).bind fun t176 => (if t176 = true then ((impl_within.f a2 0 a0).bind fun t177 => (if t177 = true then ((impl_tellsUpTo.f k a0 l1 a2).bind fun t178 => (some (t178, true))) else (some (false, false)))) else (some (false, false)))) = some (r1, r2) := h
  clear h
  replace H := Option.bind_eq_some_iff.mp H
  obtain ⟨t176, A40, H⟩ := H
  replace H : (if t176 = true then ((impl_within.f a2 0 a0).bind fun t177 => (if t177 = true then ((impl_tellsUpTo.f k a0 l1 a2).bind fun t178 => (some (t178, true))) else (some (false, false)))) else (some (false, false))) = some (r1, r2) := H
  have A4 := Aside0.mk A40
  clear A40
  by_cases c5 : t176 = true
  · subst c5
    have H1 : ((impl_within.f a2 0 a0).bind fun t177 => (if t177 = true then ((impl_tellsUpTo.f k a0 l1 a2).bind fun t178 => (some (t178, true))) else (some (false, false)))) = some (r1, r2) := by rw [if_pos rfl] at H; exact H
    clear H
    have H := H1
    clear H1
    replace H := Option.bind_eq_some_iff.mp H
    obtain ⟨t177, A60, H⟩ := H
    replace H : (if t177 = true then ((impl_tellsUpTo.f k a0 l1 a2).bind fun t178 => (some (t178, true))) else (some (false, false))) = some (r1, r2) := H
    have A6 := Aside0.mk A60
    clear A60
    by_cases c7 : t177 = true
    · subst c7
      have H1 : ((impl_tellsUpTo.f k a0 l1 a2).bind fun t178 => (some (t178, true))) = some (r1, r2) := by rw [if_pos rfl] at H; exact H
      clear H
      have H := H1
      clear H1
      replace H := Option.bind_eq_some_iff.mp H
      obtain ⟨t178, A80, H⟩ := H
      replace H : (some (t178, true)) = some (r1, r2) := H
      have A8 := Aside0.mk A80
      clear A80
      simp only [Option.some.injEq, Prod.mk.injEq] at H
      obtain ⟨rfl, rfl⟩ := H
      go_enter Try.func12, Try.ntmps12
      go_wp2_with (first | ((with_reducible refine gate_callee (f := 33) rfl ?_); refine goesL_ (some 10) rfl rfl Try.func33 (by kernel_rfl) rfl #[.int .i64 a0, .slice A1 l1.length c1] rfl (by (try simp only [List.map_toArray, List.map_cons, List.map_nil]); first | done | rfl | (simp only [List.length_drop, List.length_take]; rfl) | (simp; done) | (refine congrArg Value.bool ?_; simp; done) | (refine congrArg (fun z_ => #[Value.bool z_]) ?_; simp; done)) ?_; (with_reducible refine (impl_AreTests.calls a0 _ _ l1 true _ ?side1 ?side2 A4.out).mono ?_); (case side1 => repeat (first | exact HR1.out | (with_reducible refine Kd.C_alloc ?_ _) | (with_reducible refine Kd.C_drewN ?_ _) | (with_reducible refine Kd.C_drew ?_))); (case side2 => exact HC1.out); rintro e w9 ⟨rfl, hb⟩; refine ⟨_, rfl, ?_⟩; have n0_ := Aside0.mk (below_step (by repeat (first | (with_reducible first | exact HB.out | apply below_alloc | apply pw_below_drewN | apply below_drew1) | exact HB.out)) hb); clear HB; have HB := n0_; clear n0_; (try clear hb); (try clear hb2); (try clear hk); (try clear hi)) | (go_at_call 34; (with_reducible refine (impl_within.calls a2 0 a0 true _ A6.out).mono ?_); rintro e w' ⟨rfl, ⟨nd, rfl⟩⟩) | ((with_reducible refine gate_callee (f := 35) rfl ?_); refine goesL_ (some 21) rfl rfl Try.func35 (by kernel_rfl) rfl #[.int .i64 a0, .slice A1 l1.length c1, .int .i64 a2] rfl (by (try simp only [List.map_toArray, List.map_cons, List.map_nil]); first | done | rfl | (simp only [List.length_drop, List.length_take]; rfl) | (simp; done) | (refine congrArg Value.bool ?_; simp; done) | (refine congrArg (fun z_ => #[Value.bool z_]) ?_; simp; done)) ?_; (with_reducible refine (impl_tellsUpTo.calls k a0 _ _ l1 a2 t178 _ ?side1 ?side2 A8.out).mono ?_); (case side1 => repeat (first | exact (Kd.C_below HR1.out (by repeat (first | (with_reducible first | exact HB.out | apply below_alloc | apply pw_below_drewN | apply below_drew1) | exact HB.out))) | (with_reducible refine Kd.C_alloc ?_ _) | (with_reducible refine Kd.C_drewN ?_ _) | (with_reducible refine Kd.C_drew ?_))); (case side2 => exact HC1.out); rintro e w10 ⟨rfl, hb⟩; refine ⟨_, rfl, ?_⟩; have n0_ := Aside0.mk (below_step (by repeat (first | (with_reducible first | exact HB.out | apply below_alloc | apply pw_below_drewN | apply below_drew1) | exact HB.out)) hb); clear HB; have HB := n0_; clear n0_; (try clear hb); (try clear hb2); (try clear hk); (try clear hi)))
      go_ret2
      exact ⟨by first | rfl | (simp [errW_none, errW_some] <;> rfl) | (simp [*, errW_none, errW_some] <;> rfl), by repeat (first | (with_reducible first | exact HB.out | apply below_alloc | apply pw_below_drewN | apply below_drew1) | exact HB.out)⟩
    · replace c7 := Bool.eq_false_iff.mpr c7
      subst c7
      have H1 : (some (false, false)) = some (r1, r2) := by rw [if_neg (show ¬ (false = true) by decide)] at H; exact H
      clear H
      have H := H1
      clear H1
      simp only [Option.some.injEq, Prod.mk.injEq] at H
      obtain ⟨rfl, rfl⟩ := H
      go_enter Try.func12, Try.ntmps12
      go_wp2_with (first | ((with_reducible refine gate_callee (f := 33) rfl ?_); refine goesL_ (some 10) rfl rfl Try.func33 (by kernel_rfl) rfl #[.int .i64 a0, .slice A1 l1.length c1] rfl (by (try simp only [List.map_toArray, List.map_cons, List.map_nil]); first | done | rfl | (simp only [List.length_drop, List.length_take]; rfl) | (simp; done) | (refine congrArg Value.bool ?_; simp; done) | (refine congrArg (fun z_ => #[Value.bool z_]) ?_; simp; done)) ?_; (with_reducible refine (impl_AreTests.calls a0 _ _ l1 true _ ?side1 ?side2 A4.out).mono ?_); (case side1 => repeat (first | exact HR1.out | (with_reducible refine Kd.C_alloc ?_ _) | (with_reducible refine Kd.C_drewN ?_ _) | (with_reducible refine Kd.C_drew ?_))); (case side2 => exact HC1.out); rintro e w11 ⟨rfl, hb⟩; refine ⟨_, rfl, ?_⟩; have n0_ := Aside0.mk (below_step (by repeat (first | (with_reducible first | exact HB.out | apply below_alloc | apply pw_below_drewN | apply below_drew1) | exact HB.out)) hb); clear HB; have HB := n0_; clear n0_; (try clear hb); (try clear hb2); (try clear hk); (try clear hi)) | (go_at_call 34; (with_reducible refine (impl_within.calls a2 0 a0 false _ A6.out).mono ?_); rintro e w' ⟨rfl, ⟨nd, rfl⟩⟩))
      go_ret2
      exact ⟨by first | rfl | (simp [errW_none, errW_some] <;> rfl) | (simp [*, errW_none, errW_some] <;> rfl), by repeat (first | (with_reducible first | exact HB.out | apply below_alloc | apply pw_below_drewN | apply below_drew1) | exact HB.out)⟩
  · replace c5 := Bool.eq_false_iff.mpr c5
    subst c5
    have H1 : (some (false, false)) = some (r1, r2) := by rw [if_neg (show ¬ (false = true) by decide)] at H; exact H
    clear H
    have H := H1
    clear H1
    simp only [Option.some.injEq, Prod.mk.injEq] at H
    obtain ⟨rfl, rfl⟩ := H
    go_enter Try.func12, Try.ntmps12
    go_wp2_with (first | ((with_reducible refine gate_callee (f := 33) rfl ?_); refine goesL_ (some 10) rfl rfl Try.func33 (by kernel_rfl) rfl #[.int .i64 a0, .slice A1 l1.length c1] rfl (by (try simp only [List.map_toArray, List.map_cons, List.map_nil]); first | done | rfl | (simp only [List.length_drop, List.length_take]; rfl) | (simp; done) | (refine congrArg Value.bool ?_; simp; done) | (refine congrArg (fun z_ => #[Value.bool z_]) ?_; simp; done)) ?_; (with_reducible refine (impl_AreTests.calls a0 _ _ l1 false _ ?side1 ?side2 A4.out).mono ?_); (case side1 => repeat (first | exact HR1.out | (with_reducible refine Kd.C_alloc ?_ _) | (with_reducible refine Kd.C_drewN ?_ _) | (with_reducible refine Kd.C_drew ?_))); (case side2 => exact HC1.out); rintro e w12 ⟨rfl, hb⟩; refine ⟨_, rfl, ?_⟩; have n0_ := Aside0.mk (below_step (by repeat (first | (with_reducible first | exact HB.out | apply below_alloc | apply pw_below_drewN | apply below_drew1) | exact HB.out)) hb); clear HB; have HB := n0_; clear n0_; (try clear hb); (try clear hb2); (try clear hk); (try clear hi)))
    go_ret2
    exact ⟨by first | rfl | (simp [errW_none, errW_some] <;> rfl) | (simp [*, errW_none, errW_some] <;> rfl), by repeat (first | (with_reducible first | exact HB.out | apply below_alloc | apply pw_below_drewN | apply below_drew1) | exact HB.out)⟩

end Go.Proofs.Ytbmhgmnlkeebcab.PFnExactTellsUpTo
