-- Written by a program of this claim, over the kit's print: the functions that a law reaches, their plain forms and the walks.
import Derived.Test.YthkoignldhocgabPFnExactJoinTestsx0
import Derived.Test.YthkoignldhocgabPFnExactJoinTestsx3
namespace Go.Proofs.Ythkoignldhocgab.PFnExactJoinTests
open Go.RowKit Go.Proofs.YthkoignldhocgabW.PrintWords Go.Proofs.YthkoignldhocgabW.PrintLast Go.Proofs.YthkoignldhocgabW.PrintMore
attribute [local go_sem] max2_int min2_int max_two min_two max_three min_three max_four min_four   -- for this text's walks alone
set_option linter.unusedVariables false
set_option linter.unusedSimpArgs false

/-! ### impl_AreTests: function 12 -/
namespace Aux2
theorem w64 {x : Int} (h0 : -9223372036854775808 ≤ x) (h1 : x ≤ 9223372036854775807) : wrap64 x = x := by unfold wrap64; omega
theorem up64 {i n : Nat} (h : i < n) (hn : n ≤ 4611686018427387904) : wrap64 ((i : Int) + 1) = ((i + 1 : Nat) : Int) := by rw [w64 (by omega) (by omega)]; omega
theorem rd_lt {xs : List Int} {i : Nat} (h : i < xs.length) : rd xs (i : Int) = xs[i] := by unfold rd; simp [List.getD_eq_getElem?_getD, h]
/-- Is each one greater than the one before it? -/
def p_up : List Int → Bool
  | x :: y :: l => decide (x < y) && p_up (y :: l)
  | _ => true
end Aux2
/-- Is a list a strictly increasing one of so many wires? -/
def impl_AreTests.p_rising (a : Int) (l : List Int) : Bool := Aux2.p_up l && l.all fun y => decide (0 ≤ y) && decide (y ≤ wrap64 (a - 1))
theorem impl_AreTests.rising_l0 (a : Int) (l : List Int) (hn : l.length ≤ 4000000) : ∀ (d i k : Nat), i + d = l.length → 1 ≤ i → d < k → impl_isRising.l0 k a l (i : Int) = some (Aux2.p_up (l.drop (i - 1)) && l.all fun y => decide (0 ≤ y) && decide (y ≤ wrap64 (a - 1)))
  | 0, i, k, hi, h1, hk => by
    obtain ⟨k, rfl⟩ : ∃ q, k = q + 1 := ⟨k - 1, by omega⟩
    have e : Aux2.p_up (l.drop (i - 1)) = true := by
      have : (l.drop (i - 1)).length ≤ 1 := by rw [List.length_drop]; omega
      cases hq : l.drop (i - 1) with
      | nil => rfl
      | cons x t =>
        rw [hq] at this
        cases t with
        | nil => rfl
        | cons y t => simp at this
    simp only [impl_isRising.l0]
    rw [if_neg (by omega), e]
    unfold impl_areWithin.f impl_areWithin_1.f impl_areWithin_1.in_
    simp [List.not_any_eq_all_not]
  | d + 1, i, k, hi, h1, hk => by
    obtain ⟨k, rfl⟩ : ∃ q, k = q + 1 := ⟨k - 1, by omega⟩
    have ha : i < l.length := by omega
    have hb : i - 1 < l.length := by omega
    have ih := impl_AreTests.rising_l0 a l hn d (i + 1) k (by omega) (by omega) (by omega)
    have e1 : wrap64 ((i : Int) - 1) = ((i - 1 : Nat) : Int) := by rw [Aux2.w64 (by omega) (by omega)]; omega
    simp only [impl_isRising.l0]
    rw [if_pos (by omega), if_pos (by omega), e1, if_pos (by omega), if_pos (by omega), Aux2.rd_lt ha, Aux2.rd_lt hb, Aux2.up64 ha (by omega), ih]
    rw [List.drop_eq_getElem_cons hb, show i - 1 + 1 = i by omega, List.drop_eq_getElem_cons ha, show i + 1 - 1 = i by omega, List.drop_eq_getElem_cons ha]
    by_cases e : l[i] ≤ l[i - 1]
    · rw [if_pos e]
      simp [Aux2.p_up, show ¬ l[i - 1] < l[i] by omega]
    · rw [if_neg e]
      simp [Aux2.p_up, show l[i - 1] < l[i] by omega]
theorem impl_AreTests.rising_f (a : Int) (l : List Int) (hn : l.length ≤ 4000000) {k : Nat} (hk : l.length < k) : impl_isRising.f k a l = some (impl_AreTests.p_rising a l) := by
  unfold impl_isRising.f impl_AreTests.p_rising
  by_cases h : 1 ≤ l.length
  · have := impl_AreTests.rising_l0 a l hn (l.length - 1) 1 k (by omega) (by omega) (by omega)
    simpa using this
  · obtain ⟨k, rfl⟩ : ∃ q, k = q + 1 := ⟨k - 1, by omega⟩
    have e : l = [] := List.eq_nil_of_length_eq_zero (by omega)
    subst e
    simp only [impl_isRising.l0]
    rw [if_neg (by simp)]
    unfold impl_areWithin.f impl_areWithin_1.f
    simp [Aux2.p_up]
/-- The closure: is a row none of so many wires, or empty? -/
def impl_AreTests.p_bad (a : Int) (c : List Int) : Bool := decide (c.length = 0) || !impl_AreTests.p_rising a c
theorem impl_AreTests.clos (a : Int) (B : Nat) (A : Option Addr) (cc : Nat) (c : List Int) (w : World) (hB : w.cell? ⟨B, 0, none⟩ = some (.int .i64 a)) (hc : c.length ≤ 1048576) (hr : Kd.C (Kd.int .i64) w A c.length c) (hcc : c.length ≤ cc) :
    Calls Try.prog 32 #[.slice A c.length cc, .pointer (some ⟨B, 0, none⟩)] w fun e w' => e = .returned (.bool (impl_AreTests.p_bad a c)) ∧ Below w.heap.size w w' := by
  have h1 := Aside0.mk (impl_AreTests.rising_f a c (by omega) (show c.length < 2000000 by omega))
  have hp : Aside0 (impl_AreTests.p_bad a c = (decide (c.length = 0) || !impl_AreTests.p_rising a c)) := ⟨rfl⟩
  have HR := Aside0.mk hr
  have HC := Aside0.mk hcc
  clear hr hcc
  by_cases h0 : c.length = 0
  · have d1 : ((c.length : Int) == 0) = true := by rw [h0]; rfl
    have d2 : c = [] := List.eq_nil_of_length_eq_zero h0
    have hb : Aside0 (impl_AreTests.p_bad a c = true) := ⟨by rw [hp.out, decide_eq_true h0]; rfl⟩
    clear hp h1 h0
    subst d2
    go_enter Try.func32, Try.ntmps32
    go_wp2
    go_ret
    exact ⟨by rw [hb.out]; rfl, by repeat (first | exact Below.refl _ _ | apply below_alloc | apply pw_below_drewN)⟩
  · have d1 : ((c.length : Int) == 0) = false := beq_eq_false_iff_ne.mpr (by omega)
    have d2 : ¬ c = [] := fun e => h0 (by rw [e]; rfl)
    have hb : Aside0 (impl_AreTests.p_bad a c = !impl_AreTests.p_rising a c) := ⟨by rw [hp.out, decide_eq_false h0]; rfl⟩
    clear hp h0
    generalize impl_AreTests.p_rising a c = q at h1 hb
    generalize impl_AreTests.p_bad a c = q2 at hb ⊢
    go_enter Try.func32, Try.ntmps32
    go_wp2_with fail
    refine (impl_isRising.calls 2000000 a A cc c q _ HR.out HC.out h1.out).mono ?_
    rintro e w' ⟨rfl, hd⟩
    go_wp2
    go_ret
    exact ⟨by rw [hb.out]; rfl, by first | exact hd | exact Go.Proofs.YthkoignldhocgabW.Rng.drawn_below hd⟩
theorem impl_AreTests.ret_int {k : IntKind} {a b : Int} (h : a = b) : Ending.returned (.int k a) = .returned (.int k b) := by rw [h]
open Go.Proofs.YthkoignldhocgabW.Help in
set_option maxHeartbeats 2000000 in
theorem impl_AreTests.indexFunc (g : Nat) (lb : Array Value) (p : (List Int) → Bool) (A1 : Option Addr) (c1 : Nat) (l1 : List (List Int)) (w : World) (hr : Kd.C (Kd.slice 3 (Kd.int .i64)) w A1 l1.length l1)
    (eg : ∀ args w, (callFunc g args).run Try.prog w = .ok (.enter g args) w)
    (hp : ∀ (W : World) (A : Option Addr) (c : Nat) (x : List Int), x ∈ l1 → Below w.heap.size w W → Kd.C (Kd.int .i64) W A x.length x → x.length ≤ c → Calls Try.prog g (#[.slice A x.length c] ++ lb) W fun e W' => e = .returned (.bool (p x)) ∧ Below w.heap.size w W') :
    Calls Try.prog 57 #[.slice A1 l1.length c1, .func (.func g) #[] lb] w fun e w' => e = .returned (.int .i64 (fi p l1)) ∧ Below w.heap.size w w' := by
  have hlen : l1.length ≤ 9223372036854775807 := hr.2.1
  have HR := Aside0.mk hr
  have HP := Aside0.mk hp
  clear hr hp
  go_enter Try.func57, Try.ntmps57
  go_wp2
  go_loopg [5, 8] l1.length (fun gg _ s8 wr => ∃ x : Int, s8 = .int .i64 x ∧ Aside0 (0 ≤ x ∧ x ≤ (l1.length : Int) ∧ l1.length - x.toNat ≤ gg) ∧ Aside0 (Below w.heap.size w wr) ∧ Aside0 (∀ j, j < x.toNat → p (l1.getD j ([] : List Int)) = false))
  case atStart => exact ⟨0, rfl, ⟨by omega, by omega, by simp⟩, ⟨Below.refl _ w⟩, ⟨fun j hj => absurd hj (Nat.not_lt_zero _)⟩⟩
  case round =>
    obtain ⟨x, rfl, HX, BW, A⟩ := hrel
    by_cases hlt : x < (l1.length : Int)
    · have p0 : 0 ≤ x := HX.out.1
      obtain ⟨ad, A_, c_, e, hx0, hl0, hi0⟩ := at_L1 HR.out x p0 hlt
      subst e
      have hlt0 := World.block_lt_of_cell? w _ hx0
      replace hx0 := (BW.out.cell hlt0).trans hx0
      have hmem : rd_L1 l1 x ∈ l1 := by
        unfold rd_L1
        rw [List.getD_eq_getElem?_getD, List.getElem?_eq_getElem (show x.toNat < l1.length by omega)]
        exact List.getElem_mem _
      have hcall := HP.out wr A_ c_ (rd_L1 l1 x) hmem BW.out (Kd.C_below hi0 BW.out) hl0
      clear hmem hi0 hl0 hlt0
      have B : Aside0 (l1.getD x.toNat ([] : List Int) = rd_L1 l1 x) := ⟨rfl⟩
      have HL := Aside0.mk hlt
      have d1 : decide (x < (l1.length : Int)) = true := decide_eq_true hlt
      have d0 : decide (0 ≤ x) = true := decide_eq_true p0
      replace p0 := eq_true p0
      replace hlt := eq_true hlt
      clear HP HR
      generalize rd_L1 l1 x = y at hcall hx0 B
      cases hq : p y with
      | true =>
        rw [hq] at hcall
        have HQ := Aside0.mk hq
        clear hq
        go_wp2_with fail
        refine hcall.mono ?_
        rintro e w' ⟨rfl, hb'⟩
        go_wp2
        go_ret
        exact ⟨impl_AreTests.ret_int (by rw [fi_hit ([] : List Int) (k := x.toNat) (by have := HL.out; have := HX.out; omega) (by rw [B.out]; exact HQ.out) A.out, Int.toNat_of_nonneg HX.out.1]), hb'⟩
      | false =>
        rw [hq] at hcall
        have HQ := Aside0.mk hq
        clear hq
        go_wp2_with fail
        refine hcall.mono ?_
        rintro e w' ⟨rfl, hb'⟩
        go_wp2
        go_roundg (l1.length - (x.toNat + 1))
        case measure => have := HL.out; have := HX.out; omega
        case rel =>
          have h1 := HL.out
          have h2 := HX.out
          refine ⟨x + 1, by first | rfl | (rw [show wrap64 (x + 1) = x + 1 by unfold wrap64; omega]), ⟨by omega, by omega, by omega⟩, ⟨hb'⟩, ⟨fun j hj => ?_⟩⟩
          by_cases e : j = x.toNat
          · rw [e, B.out]; exact HQ.out
          · exact A.out j (by omega)
    · have HL := Aside0.mk hlt
      have d1 : decide (x < (l1.length : Int)) = false := decide_eq_false hlt
      clear hlt
      go_wp2
      go_ret
      exact ⟨impl_AreTests.ret_int (by rw [fi_miss ([] : List Int) (fun j hj => A.out j (by have := HL.out; have := HX.out; omega))]), BW.out⟩
open Go.Proofs.YthkoignldhocgabW.Help in
theorem impl_AreTests.containsFunc (g : Nat) (lb : Array Value) (p : (List Int) → Bool) (A1 : Option Addr) (c1 : Nat) (l1 : List (List Int)) (w : World) (hr : Kd.C (Kd.slice 3 (Kd.int .i64)) w A1 l1.length l1)
    (eg : ∀ args w, (callFunc g args).run Try.prog w = .ok (.enter g args) w)
    (hp : ∀ (W : World) (A : Option Addr) (c : Nat) (x : List Int), x ∈ l1 → Below w.heap.size w W → Kd.C (Kd.int .i64) W A x.length x → x.length ≤ c → Calls Try.prog g (#[.slice A x.length c] ++ lb) W fun e W' => e = .returned (.bool (p x)) ∧ Below w.heap.size w W') :
    Calls Try.prog 31 #[.slice A1 l1.length c1, .func (.func g) #[] lb] w fun e w' => e = .returned (.bool (l1.any p)) ∧ Below w.heap.size w w' := by
  have hcon := impl_AreTests.indexFunc g lb p A1 c1 l1 w hr eg hp
  have e1 : Aside0 (decide (fi p l1 ≥ 0) = l1.any p) := ⟨fi_ge p l1⟩
  generalize fi p l1 = r at hcon e1
  clear hr eg hp
  go_enter Try.func31, Try.ntmps31
  go_wp2_with (go_at_call 57; refine hcon.mono ?_; rintro e w' ⟨rfl, hb'⟩)
  go_ret
  exact ⟨by rw [← e1.out]; rfl, hb'⟩
def impl_AreTests.p_all (a0 : Int) (l1 : List (List Int)) : Bool := decide (1 ≤ a0) && decide (a0 ≤ 10) && (decide (l1.length ≤ 12) && l1.all fun c => !impl_AreTests.p_bad a0 c)
def impl_AreTests.f (a0 : Int) (l1 : List (List Int)) : Option Bool := if ∀ c ∈ l1, c.length ≤ 1048576 then some (impl_AreTests.p_all a0 l1) else none
theorem impl_AreTests.calls (a0 : Int) (A1 : Option Addr) (c1 : Nat) (l1 : List (List Int)) (r : Bool) (w : World) (hr1 : Kd.C (Kd.slice 3 (Kd.int .i64)) w A1 l1.length l1) (hc1 : l1.length ≤ c1) (h : impl_AreTests.f a0 l1 = some r) :
    Calls Try.prog 12 #[.int .i64 a0, .slice A1 l1.length c1] w fun e w' => e = .returned (.bool r) ∧ Below w.heap.size w w' := by
  have hlen : l1.length ≤ 9223372036854775807 := hr1.2.1
  have eg : ∀ args w, (callFunc 32 args).run Try.prog w = .ok (.enter 32 args) w := Go.Proofs.enters_of Try.func32 (by kernel_rfl) rfl
  unfold impl_AreTests.f at h
  by_cases hall : ∀ c ∈ l1, c.length ≤ 1048576
  case neg => rw [if_neg hall] at h; cases h
  rw [if_pos hall] at h
  have hask : ∀ W, Calls Try.prog 30 #[.int .i64 a0] W fun e w' => e = .returned (.bool (decide (1 ≤ a0) && decide (a0 ≤ 10))) ∧ Drawn0 W w' := fun W => by
    refine (impl_areTested.calls a0 _ W ?_).mono (fun _ _ h => h)
    unfold impl_areTested.f impl_within.f
    by_cases h : 1 ≤ a0
    · rw [if_pos h]; simp [h]
    · rw [if_neg h]; simp [h]
  have hcon : ∀ (W : World) (B : Nat), Below w.heap.size w W → B < W.heap.size → W.cell? ⟨B, 0, none⟩ = some (.int .i64 a0) → Calls Try.prog 31 #[.slice A1 l1.length c1, .func (.func 32) #[] #[.pointer (some ⟨B, 0, none⟩)]] W fun e w' => e = .returned (.bool (l1.any (impl_AreTests.p_bad a0))) ∧ Below W.heap.size W w' := fun W B hb hlt hB => by
    refine impl_AreTests.containsFunc _ _ _ A1 c1 l1 W (Kd.C_below hr1 hb) eg (fun W' A c x hm hb' hr hc => ?_)
    have hB' : W'.cell? ⟨B, 0, none⟩ = some (.int .i64 a0) := (hb'.cell (p := ⟨B, 0, none⟩) hlt).trans hB
    exact (impl_AreTests.clos a0 B A c x W' hB' (hall x hm) hr hc).mono fun e w2 ⟨he, hb2⟩ => ⟨he, below_step hb' hb2⟩
  have hr : Aside0 (r = (decide (1 ≤ a0) && decide (a0 ≤ 10) && (decide (l1.length ≤ 12) && !l1.any (impl_AreTests.p_bad a0)))) := ⟨by
    rw [← Option.some.inj h]
    unfold impl_AreTests.p_all
    rw [List.not_any_eq_all_not]⟩
  clear h hr1 eg hall
  generalize l1.any (impl_AreTests.p_bad a0) = q at hcon hr
  generalize hk : (decide (1 ≤ a0) && decide (a0 ≤ 10)) = k at hask hr
  clear hk
  have HR := hr
  clear hr
  cases k with
  | false =>
    go_enter Try.func12, Try.ntmps12
    go_wp2_with (go_at_call 30; refine (hask _).mono ?_; rintro e w' ⟨rfl, ⟨nd, rfl⟩⟩)
    go_ret
    exact ⟨by rw [HR.out]; rfl, by repeat (first | exact Below.refl _ _ | apply below_alloc | apply pw_below_drewN)⟩
  | true =>
    by_cases h20 : l1.length ≤ 12
    · have d : decide ((l1.length : Int) ≤ 12) = true := decide_eq_true (by omega)
      have d2 : decide (l1.length ≤ 12) = true := decide_eq_true h20
      have HR2 : Aside0 (r = !q) := ⟨by rw [HR.out, d2]; rfl⟩
      clear HR h20
      go_enter Try.func12, Try.ntmps12
      go_wp2_with (first | (go_at_call 30; refine (hask _).mono ?_; rintro e w' ⟨rfl, ⟨nd, rfl⟩⟩) | (go_at_call 31; (refine (hcon _ _ (by repeat (first | exact Below.refl _ _ | apply below_alloc | apply pw_below_drewN)) (by simp) (by simp)).mono ?_); rintro e w' ⟨rfl, hb⟩))
      go_ret
      exact ⟨by rw [HR2.out]; rfl, below_step (by repeat (first | exact Below.refl _ _ | apply below_alloc | apply pw_below_drewN)) hb⟩
    · have d : decide ((l1.length : Int) ≤ 12) = false := decide_eq_false (by omega)
      have d2 : decide (l1.length ≤ 12) = false := decide_eq_false h20
      have HR2 : Aside0 (r = false) := ⟨by rw [HR.out, d2]; rfl⟩
      clear HR h20
      go_enter Try.func12, Try.ntmps12
      go_wp2_with (go_at_call 30; refine (hask _).mono ?_; rintro e w' ⟨rfl, ⟨nd, rfl⟩⟩)
      go_ret
      exact ⟨by rw [HR2.out]; rfl, by repeat (first | exact Below.refl _ _ | apply below_alloc | apply pw_below_drewN)⟩


-- NOT PRINTED: function 62 (slices_Grow_int_int)

/-! ### slices_Concat_int_int: function 53 -/
/-- Rows that came in, as they read at the world W0: an element of a row of one's own that owns nothing. -/
def slices_Concat_int_int.came (W0 : World) : Kd (List Int) where
  sz := 1
  E := []
  K := fun _ xs cs => (Kd.slice 3 (Kd.int .i64)).K W0 xs cs
  M := fun _ _ _ xs cs => (Kd.slice 3 (Kd.int .i64)).K W0 xs cs
  K_len := fun h => (Kd.slice 3 (Kd.int .i64)).K_len h
  K_one := fun h => (Kd.slice 3 (Kd.int .i64)).K_one h
  K_below := fun _ h => h
  K_of_M := fun h => h
  M_mono := fun _ h => h
  M_bound := fun h => h
  M_move := fun _ h => h
  M_lower := fun _ h => h
def slices_Concat_int_int.cat (L : Nat → List (List Int)) (n : Nat) : List (List Int) := (List.range n).flatMap L
theorem slices_Concat_int_int.cat_succ (L : Nat → List (List Int)) (n : Nat) : slices_Concat_int_int.cat L (n + 1) = slices_Concat_int_int.cat L n ++ L n := by
  unfold slices_Concat_int_int.cat
  rw [List.range_succ, List.flatMap_append]
  simp
theorem slices_Concat_int_int.cat_le (L : Nat → List (List Int)) (x : Nat) : ∀ d, (slices_Concat_int_int.cat L x).length ≤ (slices_Concat_int_int.cat L (x + d)).length
  | 0 => Nat.le_refl _
  | d + 1 => by
    have := slices_Concat_int_int.cat_le L x d
    rw [← Nat.add_assoc, slices_Concat_int_int.cat_succ, List.length_append]
    omega
set_option maxHeartbeats 1000000 in
set_option maxRecDepth 100000 in
theorem slices_Concat_int_int.grow (W0 : World) (n : Int) (h0 : 0 ≤ n) (h1 : n ≤ 3000000) (w : World) :
    Calls Try.prog 62 #[.slice none 0 0, .int .i64 n] w fun e w' => ∃ v0_ : Value, e = .returned v0_ ∧ (slices_Concat_int_int.came W0).R 32 w' w.heap.size (fun _ => True) v0_ [] ∧ Below w.heap.size w w' := by
  have d0 : decide (n < 0) = false := decide_eq_false (by omega)
  have f0 : wrap64 n = n := by unfold wrap64; omega
  have f1 : wrap64 0 = 0 := by unfold wrap64; omega
  have H0 := Aside0.mk h0
  have H1 := Aside0.mk h1
  by_cases hn : 0 < n
  · have d1 : decide (0 < n) = true := decide_eq_true hn
    clear hn h0 h1
    go_enter Try.func62, Try.ntmps62
    go_wp2_with ((with_reducible refine gate_builtin (b := .append) (xs := #[.tmp 20, .tmp 21]) rfl ?_); at_builtin; refine Kd.R_append_zeros (slices_Concat_int_int.came W0) (w0 := w) w.heap.size rfl (.tmp 20) (.tmp 21) 22 3 32 (.slice none 0 0) 24 rfl Try.underlying22 Try.underlying3 info32 rfl Nat.zero_lt_one (by omega) (.slice none 0 0) [] [] (wrap64 n) (fun _ => True) rfl rfl ?aZ (fun _ _ => trivial) (Kd.R_nil _ _ _ _ _) (by rw [f0]; exact H0.out) ?aB ?aS ?aL ?_; (case aZ => exact ⟨none, 0, rfl, Nat.le_refl _, Kd.C_nil _ _⟩); (case aB => exact (by repeat (first | exact Below.refl _ _ | apply pw_below_drewN | apply below_drew1))); (case aS => exact Nat.le_refl _); (case aL => have := H1.out; rw [f0]; simp; omega); intro v1 w1 ho1 hb1 hg_ hat_; clear hg_ hat_; have O1 := Aside0.mk ho1; have B1 := Aside0.mk hb1; clear ho1 hb1; obtain ⟨A1, c1, rfl⟩ := Kd.R_slice O1.out)
    go_ret
    exact ⟨_, rfl, by simpa using Kd.R_take (m := 0) O1.out (Nat.zero_le _), B1.out⟩
  · have d1 : decide (0 < n) = false := decide_eq_false hn
    clear hn h0 h1
    go_enter Try.func62, Try.ntmps62
    go_wp2
    go_ret
    exact ⟨_, rfl, Kd.R_nil _ _ _ _ _, by repeat (first | exact Below.refl _ _ | apply below_alloc | apply pw_below_drewN | apply below_drew1)⟩
set_option maxHeartbeats 1000000 in
set_option maxRecDepth 100000 in
theorem slices_Concat_int_int.concat (N B : Nat) (L : Nat → List (List Int)) (A : Nat → Option Addr) (c : Nat → Nat) (w : World) (hN : N ≤ 1000) (hB : ∀ x, x < N → w.cell? ⟨B, x, none⟩ = some (.slice (A x) (L x).length (c x)))
    (hC : ∀ x, x < N → Kd.C (Kd.slice 3 (Kd.int .i64)) w (A x) (L x).length (L x)) (ht : (slices_Concat_int_int.cat L N).length ≤ 3000000) :
    Calls Try.prog 53 #[.slice (some ⟨B, 0, none⟩) N N] w fun e w' => ∃ (A' : Option Addr) (c' : Nat), e = .returned (.slice A' (slices_Concat_int_int.cat L N).length c') ∧ (slices_Concat_int_int.cat L N).length ≤ c' ∧ Kd.C (Kd.slice 3 (Kd.int .i64)) w' A' (slices_Concat_int_int.cat L N).length (slices_Concat_int_int.cat L N) ∧ Below w.heap.size w w' := by
  have HB := Aside0.mk hB
  have HC := Aside0.mk hC
  have HN := Aside0.mk hN
  have HT := Aside0.mk ht
  have hle : ∀ x, x ≤ N → (slices_Concat_int_int.cat L x).length ≤ 3000000 := fun x hx => by
    have := slices_Concat_int_int.cat_le L x (N - x)
    rw [show x + (N - x) = N by omega] at this
    omega
  have HLE := Aside0.mk hle
  clear hB hC hN ht hle
  go_enter Try.func53, Try.ntmps53
  go_wp2
  go_loopg [3, 11] N (fun gg v3 v11 wr => ∃ x : Nat, v3 = .int .i64 ((slices_Concat_int_int.cat L x).length : Int) ∧ v11 = .int .i64 (x : Int) ∧ Aside0 (x ≤ N ∧ N - x ≤ gg) ∧ Aside0 (Below w.heap.size w wr))
  case atStart => exact ⟨0, rfl, rfl, ⟨by omega, by omega⟩, ⟨by repeat (first | exact Below.refl _ _ | apply pw_below_drewN | apply below_drew1)⟩⟩
  case round =>
    obtain ⟨x, rfl, rfl, HX, BW⟩ := hrel
    by_cases hlt : x < N
    · have h0 := HB.out x hlt
      have hx := (BW.out.cell (p := ⟨B, x, none⟩) (World.block_lt_of_cell? w _ h0)).trans h0
      have hs := slices_Concat_int_int.cat_succ L x
      have hl1 := HLE.out (x + 1) hlt
      have hl0 : (slices_Concat_int_int.cat L (x + 1)).length = (slices_Concat_int_int.cat L x).length + (L x).length := by rw [hs, List.length_append]
      have HS := Aside0.mk hl0
      have HLT := Aside0.mk hlt
      have hsum : wrap64 (((slices_Concat_int_int.cat L x).length : Int) + ((L x).length : Int)) = ((slices_Concat_int_int.cat L (x + 1)).length : Int) := by unfold wrap64; omega
      have hneg : decide (((slices_Concat_int_int.cat L (x + 1)).length : Int) < 0) = false := decide_eq_false (by omega)
      have d1 : decide ((x : Int) < (N : Int)) = true := decide_eq_true (by omega)
      have d0 : decide (x < N) = true := decide_eq_true hlt
      have p0 : (x < N) = True := eq_true hlt
      have hup : wrap64 ((x : Int) + 1) = ((x + 1 : Nat) : Int) := by have := HN.out; unfold wrap64; omega
      have HU := Aside0.mk hup
      have HSUM := Aside0.mk hsum
      clear hs hl1 hl0 h0 hlt hup
      generalize (slices_Concat_int_int.cat L x).length = a1 at hsum HSUM HS ⊢
      generalize ea : (slices_Concat_int_int.cat L (x + 1)).length = a2 at hsum HSUM hneg HS
      have EA := Aside0.mk ea
      clear ea
      go_wp2
      go_roundg (N - (x + 1))
      case measure => have := HX.out; have := HLT.out; omega
      case rel => exact ⟨x + 1, by rw [EA.out, HSUM.out], by rw [HU.out], ⟨by have := HLT.out; omega, by omega⟩, BW⟩
    · have d1 : decide ((x : Int) < (N : Int)) = false := decide_eq_false (by omega)
      have d0 : decide (x < N) = false := decide_eq_false hlt
      have ex : x = N := by have := HX.out; omega
      subst ex
      clear hlt
      go_wp2_with fail
      refine (slices_Concat_int_int.grow w ((slices_Concat_int_int.cat L x).length : Int) (by omega) (by have := HT.out; omega) wr).mono ?_
      rintro e w1 ⟨v1, rfl, hv, hb⟩
      have B1 := Aside0.mk (below_step BW.out hb)
      have O1 := Aside0.mk (Kd.R_lower hv BW.out.size)
      clear hv hb BW HX
      go_wp2
      go_loopg [6, 27] x (fun gg v6 v27 wr => ∃ y : Nat, v27 = .int .i64 (y : Int) ∧ Aside0 (y ≤ x ∧ x - y ≤ gg) ∧ Aside0 (Below w.heap.size w wr) ∧ Aside0 ((slices_Concat_int_int.came w).R 32 wr w.heap.size (fun _ => True) v6 (slices_Concat_int_int.cat L y)))
      case atStart => exact ⟨0, rfl, ⟨by omega, by omega⟩, B1, O1⟩
      case round =>
        clear B1 O1
        obtain ⟨y, rfl, HY, BW, O⟩ := hrel
        by_cases hlt : y < x
        · have h0 := HB.out y hlt
          have hx := (BW.out.cell (p := ⟨B, y, none⟩) (World.block_lt_of_cell? w _ h0)).trans h0
          have hs := slices_Concat_int_int.cat_succ L y
          have HSS := Aside0.mk hs
          have hl0 : (slices_Concat_int_int.cat L (y + 1)).length = (slices_Concat_int_int.cat L y).length + (L y).length := by rw [hs, List.length_append]
          have HS := Aside0.mk hl0
          have HL1 := Aside0.mk (HLE.out (y + 1) hlt)
          have HCY := Aside0.mk (ReadsRow.imp_ (HC.out y hlt) BW.out (fun _ _ hp => hp))
          have HLT := Aside0.mk hlt
          have d1 : decide ((y : Int) < (x : Int)) = true := decide_eq_true (by omega)
          have d0 : decide (y < x) = true := decide_eq_true hlt
          have p0 : (y < x) = True := eq_true hlt
          have hup : wrap64 ((y : Int) + 1) = ((y + 1 : Nat) : Int) := by have := HN.out; unfold wrap64; omega
          have HU := Aside0.mk hup
          clear hs hl0 h0 hlt hup
          go_wp2_with ((with_reducible refine gate_builtin (b := .append) (xs := #[.tmp 31, .tmp 32]) rfl ?_); at_builtin; refine Kd.R_append_rows (slices_Concat_int_int.came w) (Rr := (Kd.slice 3 (Kd.int .i64)).K w) (w0 := w) w.heap.size rfl (.tmp 31) (.tmp 32) 22 32 (.slice none 0 0) 24 rfl Try.underlying22 info32 rfl Nat.zero_lt_one (by omega) u6 (slices_Concat_int_int.cat L y) (L y) (A y) (L y).length (c y) (fun _ => True) (fun _ => False) rfl rfl O.out HCY.out (fun _ _ hp => hp) (fun _ hk => hk.elim) (fun _ _ => trivial) BW.out BW.out.size ?aL ?_; (case aL => have := HS.out; have := HL1.out; omega); intro v3 w3 ho3 hb3 hg_ hat_; clear hg_ hat_; have O3 := Aside0.mk ho3; have B3 := Aside0.mk hb3; clear ho3 hb3 O BW HCY hx)
          go_roundg (x - (y + 1))
          case measure => have := HY.out; have := HLT.out; omega
          case rel => exact ⟨y + 1, by rw [HU.out], ⟨by have := HLT.out; omega, by omega⟩, B3, ⟨by rw [HSS.out]; exact O3.out⟩⟩
        · have d1 : decide ((y : Int) < (x : Int)) = false := decide_eq_false (by omega)
          have d0 : decide (y < x) = false := decide_eq_false hlt
          have ey : y = x := by have := HY.out; omega
          subst ey
          clear hlt
          obtain ⟨A', c', rfl, hc', hC'⟩ := Kd.R_reads O.out
          have HC' := Aside0.mk hC'
          have HCC := Aside0.mk hc'
          clear hc' hC'
          go_wp2
          go_ret
          exact ⟨A', c', rfl, HCC.out, ReadsRow.imp_ HC'.out (Below.refl _ _) (fun _ _ hp => (Kd.slice 3 (Kd.int .i64)).K_below BW.out hp), BW.out⟩


/-! ### slices_Clone_int_int: function 46 -/
def slices_Clone_int_int.f (l0 : List Int) : Option (List Int) := if l0.length < 17592186044416 then some l0 else none
theorem slices_Clone_int_int.none_ {w : World} {n : Nat} {l0 : List Int} (h : Kd.C (Kd.int .i64) w none n l0) : n = 0 := by
  rcases Nat.eq_zero_or_pos n with e | e
  · exact e
  · obtain ⟨ad, h1, _⟩ := h.2.2 e
    cases h1
set_option maxRecDepth 100000 in
theorem slices_Clone_int_int.calls (A0 : Option Addr) (c0 : Nat) (l0 : List Int) (r : List Int) (w : World) (hr0 : Kd.C (Kd.int .i64) w A0 l0.length l0) (hc0 : l0.length ≤ c0) (h : slices_Clone_int_int.f l0 = some r) :
    Calls Try.prog 46 #[.slice A0 l0.length c0] w fun e w' => ∃ v0_ : Value, e = .returned (v0_) ∧ Kd.R (Kd.int .i64) 3 w' w.heap.size (fun _ => True) v0_ r ∧ Below w.heap.size w w' := by
  unfold slices_Clone_int_int.f at h
  split at h
  case isFalse => cases h
  rename_i hlim
  obtain rfl := Option.some.inj h
  have LM := Aside0.mk hlim
  have HR0 := Aside0.mk hr0
  have HC0 := Aside0.mk hc0
  have HB := Aside0.mk (Below.refl w.heap.size w)
  clear h hlim hr0 hc0
  cases A0 with
  | none =>
    have h0 := slices_Clone_int_int.none_ HR0.out
    obtain rfl := List.eq_nil_of_length_eq_zero h0
    clear h0
    have he : ∀ w : World, (binOp .eql 32 (.slice none 0 c0) (.slice none 0 0)).run Try.prog w = .ok (.bool true) w := fun _ => rfl
    go_enter Try.func46, Try.ntmps46
    go_wp2
    go_ret
    exact ⟨_, rfl, Kd.R_nil _ _ _ _ _, HB.out⟩
  | some ad =>
    have he : ∀ w : World, (binOp .eql 32 (.slice (some ad) l0.length c0) (.slice none 0 0)).run Try.prog w = .ok (.bool false) w := fun _ => rfl
    go_enter Try.func46, Try.ntmps46
    go_wp2_with (first | ((with_reducible refine gate_dst (N := 5) rfl ?_); refine Kd.R_lit (Kd.int .i64) _ 3 ?hg (N := 5) ?hd (xs := ([] : List Int)) (inner := []) (ok := fun _ => True) (okp := fun _ => True) ?hr ?hp (fun _ hk => hk) trivial (Below.refl _ _) (Nat.le_refl _) (by simp) ?_; (case hd => rfl); (case hg => rfl); (case hr => first | (go_simp; done) | (go_simp; rfl)); (case hp => exact (Reps.none _ _)); intro v1 w3 ho4 hb hg_ hnew_; clear hg_ hnew_; have n0_ := Aside0.mk (Kd.R_lower ho4 (below_size (by repeat (first | (with_reducible first | exact HB.out | apply below_alloc | apply pw_below_drewN | apply below_drew1) | exact HB.out)))); have n1_ := Aside0.mk (below_step (by repeat (first | (with_reducible first | exact HB.out | apply below_alloc | apply pw_below_drewN | apply below_drew1) | exact HB.out)) hb); clear HB; have HO1 := n0_; have HB := n1_; clear n0_ n1_; clear hb ho4) | ((with_reducible refine gate_builtin (b := .append) (xs := #[.tmp 5, .tmp 6]) rfl ?_); at_builtin; refine Kd.R_append_rows (Kd.int .i64) (w0 := w) w.heap.size rfl (.tmp 5) (.tmp 6) 32 3 (.int .i64 0) 8 rfl Try.underlying32 info3 rfl (by decide) (by omega) v1 [] l0 _ _ _ (fun _ => True) (fun _ => False) rfl rfl ?aO ?aR (fun _ _ h => h) (fun _ h => h.elim) ?aF ?aB ?aS ?aL ?_; (case aR => repeat (first | exact (Kd.C_below HR0.out HB.out) | (with_reducible refine Kd.C_alloc ?_ _) | (with_reducible refine Kd.C_drewN ?_ _) | (with_reducible refine Kd.C_drew ?_))); (case aB => exact (by repeat (first | (with_reducible first | exact HB.out | apply below_alloc | apply pw_below_drewN | apply below_drew1) | exact HB.out))); (case aF => exact (fun _ _ => trivial)); (case aO => exact (by (with_reducible repeat (first | apply Kd.R_alloc | apply Kd.R_drewN | apply Kd.R_drew)); exact HO1.out)); (case aS => exact (below_size (by repeat (first | (with_reducible first | exact HB.out | apply below_alloc | apply pw_below_drewN | apply below_drew1) | exact HB.out)))); (case aL => have := LM.out; simp only [List.length_nil]; omega); intro v2 w5 ho hb hg hat; rw [List.nil_append] at ho; have n0_ := Aside0.mk (hb); have n1_ := Aside0.mk (ho); clear HB; clear HO1; have HB := n0_; have HO2 := n1_; clear n0_ n1_; clear ho hb hg hat))
    go_ret
    exact ⟨_, rfl, by (with_reducible repeat (first | apply Kd.R_alloc | apply Kd.R_drewN | apply Kd.R_drew)); exact HO2.out, by repeat (first | (with_reducible first | exact HB.out | apply below_alloc | apply pw_below_drewN | apply below_drew1) | exact HB.out)⟩


/-! ### impl_copyLists: function 54 -/
def impl_copyLists.l0 : Nat → List (List Int) → List (List Int) → Int → Int → Option ((List (List Int)))
  | 0, _, _, _, _ => none
  | k + 1, x3, x7, x8, x9 => if x9 < x8 then (if 0 ≤ x9 then (if x9 < (x7.length : Int) then ((slices_Clone_int_int.f (rd_L1 x7 x9)).bind fun t165 => (if x3.length < 5864062014805 then (impl_copyLists.l0 k (x3 ++ [t165]) x7 x8 (wrap64 (x9 + 1))) else (none))) else (none)) else (none)) else (some x3)
def impl_copyLists.f (k : Nat) (l0 : List (List Int)) : Option ((List (List Int))) := impl_copyLists.l0 k (([] : List (List Int))) l0 (l0.length : Int) 0
theorem impl_copyLists.mono_l : ∀ k, (∀ y0 y1 y2 y3, LeO (impl_copyLists.l0 k y0 y1 y2 y3) (impl_copyLists.l0 (k + 1) y0 y1 y2 y3))
  | 0 => fun _ _ _ _ r h => by simp [impl_copyLists.l0] at h
  | k + 1 => by
    have ih0 := impl_copyLists.mono_l k
    · intro y0 y1 y2 y3
      unfold impl_copyLists.l0
      repeat' first
      | (with_reducible exact ih0 _ _ _ _)
      | (with_reducible exact LeO.refl _)
      | (with_reducible exact LeO.none _)
      | (with_reducible refine LeO.ite ?_ ?_)
      | (with_reducible refine LeO.bind ?_ (fun _ => ?_))
      | exact ih0 _ _ _ _
      | exact LeO.none _
      | refine LeO.ite ?_ ?_
      | refine LeO.bind ?_ (fun _ => ?_)
theorem impl_copyLists.mono : ∀ a0 k, LeO (impl_copyLists.f k a0) (impl_copyLists.f (k + 1) a0) := by
  intro a0 k
  have ih0 := impl_copyLists.mono_l k
  unfold impl_copyLists.f
  repeat' first
      | (with_reducible exact ih0 _ _ _ _)
      | (with_reducible exact LeO.refl _)
      | (with_reducible exact LeO.none _)
      | (with_reducible refine LeO.ite ?_ ?_)
      | (with_reducible refine LeO.bind ?_ (fun _ => ?_))
      | exact ih0 _ _ _ _
      | exact LeO.none _
      | refine LeO.ite ?_ ?_
      | refine LeO.bind ?_ (fun _ => ?_)
set_option maxHeartbeats 8000000 in
set_option maxRecDepth 100000 in
theorem impl_copyLists.calls (k : Nat) (A0 : Option Addr) (c0 : Nat) (l0 : List (List Int)) (r : List (List Int)) (w : World) (hr0 : Kd.C (Kd.slice 3 (Kd.int .i64)) w A0 l0.length l0) (hc0 : l0.length ≤ c0) (h : impl_copyLists.f k l0 = some r) :
    Calls Try.prog 54 #[.slice A0 l0.length c0] w fun e w' => ∃ v0_ : Value, e = .returned (v0_) ∧ Kd.S (Kd.slice 3 (Kd.int .i64)) 32 w' w.heap.size (fun _ => True) v0_ r ∧ Below w.heap.size w w' := by
  have HR0 := Aside0.mk hr0
  have HC0 := Aside0.mk hc0
  clear hr0 hc0
  have HB := Aside0.mk (Below.refl w.heap.size w)
  have H : (impl_copyLists.l0 k (([] : List (List Int))) l0 (l0.length : Int) 0) = some r := h
  clear h
  obtain ⟨y161, hy161⟩ : ∃ y_ : List (List Int), y_ = (([] : List (List Int))) := ⟨_, rfl⟩
  replace H : (impl_copyLists.l0 k y161 l0 (l0.length : Int) 0) = some r := by first | (rw [hy161]; with_reducible exact H) | (have H2_ := (Option.bind_some _ _).symm.trans H; rw [hy161]; with_reducible exact H2_) | (have H2_ := (Option.bind_some _ _).symm.trans H; with_reducible exact H2_) | with_reducible exact H | (rw [hy161]; exact H) | exact H
  have Ny161 := Aside0.mk hy161
  clear hy161
  have H' := Aside0.mk H
  clear H
  go_enter Try.func54, Try.ntmps54
  go_wp2_with (first | ((with_reducible refine gate_dst (N := 6) rfl ?_); refine Kd.S_lit (Kd.slice 3 (Kd.int .i64)) _ 32 ?hg (N := 6) ?hd (xs := ([] : List (List Int))) (inner := []) (ok := fun _ => True) (okp := fun _ => True) ?hr ?hp (fun _ hk => hk) trivial (Below.refl _ _) (Nat.le_refl _) (by simp) ?_; (case hd => rfl); (case hg => rfl); (case hr => first | (go_simp; done) | (go_simp; rfl)); (case hp => exact (Reps.none _ _)); intro v162 w2 ho3 hb hg_ hnew_; clear hg_ hnew_; (first | rw [← Ny161.out] at ho3 | (simp only [Int.reduceToNat] at ho3; rw [← Ny161.out] at ho3)); have n0_ := Aside0.mk (Kd.S_lower ho3 (below_size (by repeat (first | (with_reducible first | exact HB.out | apply below_alloc | apply pw_below_drewN | apply below_drew1) | exact HB.out)))); have n1_ := Aside0.mk (below_step (by repeat (first | (with_reducible first | exact HB.out | apply below_alloc | apply pw_below_drewN | apply below_drew1) | exact HB.out)) hb); clear HB; have HO163 := n0_; have HB := n1_; clear n0_ n1_; clear hb ho3))
  go_loopg [3, 9] k (fun kq v3 v9 w' => ∃ (x3_1 : List (List Int)) (x9_1 : Int), v9 = .int .i64 x9_1 ∧ Aside0 (impl_copyLists.l0 kq x3_1 l0 (l0.length : Int) x9_1 = some r) ∧ Aside0 (kq ≤ k) ∧ Aside0 (Kd.S (Kd.slice 3 (Kd.int .i64)) 32 w' w.heap.size (fun _ => True) v3 x3_1) ∧ Aside0 (Below w.heap.size w w'))
  case atStart => exact ⟨(y161), (0), (by first | rfl | (simp; done) | (simp [*]; done)), H', ⟨Nat.le_refl _⟩, ⟨by (with_reducible repeat (first | apply Kd.S_alloc | apply Kd.S_drewN | apply Kd.S_drew)); exact HO163.out⟩, ⟨by repeat (first | (with_reducible first | exact HB.out | apply below_alloc | apply pw_below_drewN | apply below_drew1) | exact HB.out)⟩⟩
  case round =>
    clear H'
    try clear p2
    obtain ⟨x3_1, x9_1, rfl, HA, HK1, HO_3, HB⟩ := hrel
    cases gk with
    | zero => exact absurd HA.out (by simp [impl_copyLists.l0])
    | succ k1 =>
      have H := HA.out
      clear HA
      simp only [impl_copyLists.l0] at H
      by_cases c4 : x9_1 < (l0.length : Int)
      · rw [if_pos c4] at H
        have c4b0 : decide (x9_1 < (l0.length : Int)) = true := decide_eq_true c4
        clear c4
        by_cases c5 : 0 ≤ x9_1
        · rw [if_pos c5] at H
          have c5b0 : decide (0 ≤ x9_1) = true := decide_eq_true c5
          clear c5
          by_cases c6 : x9_1 < (l0.length : Int)
          · rw [if_pos c6] at H
            have c6b0 : decide (x9_1 < (l0.length : Int)) = true := decide_eq_true c6
            clear c6
            replace H := Option.bind_eq_some_iff.mp H
            obtain ⟨t165, A70, H⟩ := H
            replace H : (if x3_1.length < 5864062014805 then (impl_copyLists.l0 k1 (x3_1 ++ [t165]) l0 (l0.length : Int) (wrap64 (x9_1 + 1))) else (none)) = some r := H
            have A7 := Aside0.mk A70
            clear A70
            by_cases c8 : x3_1.length < 5864062014805
            · rw [if_pos c8] at H
              have LMc8 := Aside0.mk c8
              clear c8
              obtain ⟨y168, hy168⟩ : ∃ y_ : List (List Int), y_ = (x3_1 ++ [t165]) := ⟨_, rfl⟩
              replace H : (impl_copyLists.l0 k1 y168 l0 (l0.length : Int) (wrap64 (x9_1 + 1))) = some r := by first | (rw [hy168]; with_reducible exact H) | (have H2_ := (Option.bind_some _ _).symm.trans H; rw [hy168]; with_reducible exact H2_) | (have H2_ := (Option.bind_some _ _).symm.trans H; with_reducible exact H2_) | with_reducible exact H | (rw [hy168]; exact H) | exact H
              have Ny168 := Aside0.mk hy168
              clear hy168
              have H' := Aside0.mk H
              clear H
              have p164 : 0 ≤ (x9_1 : Int) := of_decide_eq_true (by first | (with_reducible assumption) | assumption)
              have q164 : x9_1 < (l0.length : Int) := of_decide_eq_true (by first | (with_reducible assumption) | assumption)
              obtain ⟨ad164, A164_0, c164_0, e164, hx164_0, hl164_0, hi164_0⟩ := at_L1 HR0.out x9_1 p164 q164
              cases e164
              replace hx164_0 := (HB.out.cell (World.block_lt_of_cell? w _ hx164_0)).trans hx164_0
              have HR164_0 := Aside0.mk hi164_0
              have HC164_0 := Aside0.mk hl164_0
              clear hi164_0 hl164_0
              replace p164 := eq_true p164
              replace q164 := eq_true q164
              go_wp2_with (first | ((with_reducible refine gate_callee (f := 46) rfl ?_); refine goesL_ (some 15) rfl rfl Try.func46 (by kernel_rfl) rfl #[.slice A164_0 (rd_L1 l0 x9_1).length c164_0] rfl (by (try simp only [List.map_toArray, List.map_cons, List.map_nil]); first | done | rfl | (simp only [List.length_drop, List.length_take]; rfl) | (simp; done) | (refine congrArg Value.bool ?_; simp; done) | (refine congrArg (fun z_ => #[Value.bool z_]) ?_; simp; done)) ?_; (with_reducible refine (slices_Clone_int_int.calls _ _ (rd_L1 l0 x9_1) t165 _ ?side1 ?side2 A7.out).mono ?_); (case side1 => repeat (first | exact (Kd.C_below HR164_0.out HB.out) | (with_reducible refine Kd.C_alloc ?_ _) | (with_reducible refine Kd.C_drewN ?_ _) | (with_reducible refine Kd.C_drew ?_))); (case side2 => exact HC164_0.out); rintro e w9 ⟨v166, rfl, ho0, hb⟩; refine ⟨_, rfl, ?_⟩; have n0_ := Aside0.mk (Kd.S_elder' (by (with_reducible repeat (first | apply Kd.S_alloc | apply Kd.S_drewN | apply Kd.S_drew)); exact HO_3.out) (Kd.R_base ho0) hb); have n1_ := Aside0.mk (Kd.R_lower ho0 (below_size (by repeat (first | (with_reducible first | exact HB.out | apply below_alloc | apply pw_below_drewN | apply below_drew1) | exact HB.out)))); have n2_ := Aside0.mk (below_step (by repeat (first | (with_reducible first | exact HB.out | apply below_alloc | apply pw_below_drewN | apply below_drew1) | exact HB.out)) hb); clear HO_3; clear HB; have HO_3 := n0_; have HO167 := n1_; have HB := n2_; clear n0_ n1_ n2_; (try clear hb); (try clear hb2); (try clear hk); (try clear hi); (try clear ho0); obtain ⟨Ao11, co11, eo11⟩ := Kd.R_slice HO167.out; subst eo11) | ((with_reducible refine gate_builtin (b := .append) (xs := #[.tmp 13, .tmp 16]) rfl ?_); at_builtin; refine Kd.S_append (Kd.slice 3 (Kd.int .i64)) (w0 := w) w.heap.size rfl (.tmp 13) (.tmp 16) 22 32 (.slice none 0 0) 24 rfl Try.underlying22 info32 rfl (by decide) (by omega) u3 x3_1 t165 [.slice Ao11 t165.length co11] (fun _ => True) (fun k_ => some k_ = (.slice Ao11 t165.length co11 : Value).ownBlock) rfl rfl ?aP (fun k_ hk_ => ((Kd.R_mono (ok' := fun k_ => ((fun _ => True)) k_ ∧ some k_ ≠ (u3 : Value).ownBlock) (Kd.R_apart' (HO167.out) (Kd.S_typed HO_3.out) (by decide)) (fun k_ hk => ⟨trivial, hk.2⟩))).1 k_ hk_.symm) ?aF ?aO ?aB ?aS ?aL ?_; (case aP => exact Kd.M_row (Kd.R_mono (Kd.R_tight rfl (Kd.R_mono (ok' := fun k_ => ((fun _ => True)) k_ ∧ some k_ ≠ (u3 : Value).ownBlock) (Kd.R_apart' (HO167.out) (Kd.S_typed HO_3.out) (by decide)) (fun k_ hk => ⟨trivial, hk.2⟩))) (fun _ h_ => h_))); (case aB => exact (by repeat (first | (with_reducible first | exact HB.out | apply below_alloc | apply pw_below_drewN | apply below_drew1) | exact HB.out))); (case aF => exact (fun _ _ => trivial)); (case aO => exact (by (with_reducible repeat (first | apply Kd.S_alloc | apply Kd.S_drewN | apply Kd.S_drew)); exact Kd.S_mono HO_3.out (fun k_ hk => ⟨trivial, fun e_ => hk.2 e_⟩))); (case aS => exact (below_size (by repeat (first | (with_reducible first | exact HB.out | apply below_alloc | apply pw_below_drewN | apply below_drew1) | exact HB.out)))); (case aL => have := LMc8.out; omega); intro v169 w10 ho hb hg hat; rw [← Ny168.out] at ho; have n0_ := Aside0.mk (hb); have n1_ := Aside0.mk (ho); clear HB; clear HO_3; clear HO167; have HB := n0_; have HO170 := n1_; clear n0_ n1_; clear ho hb hg hat))
              go_roundg k1
              case measure => have := HK1.out; omega
              case rel => exact ⟨(y168), (wrap64 (x9_1 + 1)), (by first | rfl | (simp; done) | (simp [*]; done)), H', ⟨by have := HK1.out; omega⟩, ⟨by (with_reducible repeat (first | apply Kd.S_alloc | apply Kd.S_drewN | apply Kd.S_drew)); exact HO170.out⟩, ⟨by repeat (first | (with_reducible first | exact HB.out | apply below_alloc | apply pw_below_drewN | apply below_drew1) | exact HB.out)⟩⟩
            · rw [if_neg c8] at H
              exact absurd H (by simp)
          · rw [if_neg c6] at H
            exact absurd H (by simp)
        · rw [if_neg c5] at H
          exact absurd H (by simp)
      · rw [if_neg c4] at H
        have c4b0 : decide (x9_1 < (l0.length : Int)) = false := decide_eq_false c4
        clear c4
        obtain rfl := Option.some.inj H
        go_wp2
        go_ret
        exact ⟨_, by first | rfl | (simp [errW_none, errW_some] <;> rfl) | (simp [*, errW_none, errW_some] <;> rfl), by (with_reducible repeat (first | apply Kd.S_alloc | apply Kd.S_drewN | apply Kd.S_drew)); exact HO_3.out, by repeat (first | (with_reducible first | exact HB.out | apply below_alloc | apply pw_below_drewN | apply below_drew1) | exact HB.out)⟩

/-! ### impl_JoinTests: function 25 -/
def impl_JoinTests.f (k : Nat) (a0 : Int) (l1 l2 : List (List Int)) : Option (List (List Int) × Bool) := if l1.length + l2.length ≤ 3000000 then (impl_AreTests.f a0 l1).bind fun t1 => if t1 = true then (impl_AreTests.f a0 l2).bind fun t2 => if t2 = true then (if 12 < l1.length + l2.length then some ([], false) else (impl_copyLists.f k (l1 ++ l2)).bind fun o => some (o, true)) else some ([], false) else some ([], false) else none
theorem impl_JoinTests.mono : ∀ a0 a1 a2 k, LeO (impl_JoinTests.f k a0 a1 a2) (impl_JoinTests.f (k + 1) a0 a1 a2) := fun a0 a1 a2 k => LeO.ite (LeO.bind (LeO.refl _) (fun _ => LeO.ite (LeO.bind (LeO.refl _) (fun _ => LeO.ite (LeO.ite (LeO.refl _) (LeO.bind (impl_copyLists.mono _ _) (fun _ => LeO.refl _))) (LeO.refl _))) (LeO.refl _))) (LeO.none _)
theorem impl_JoinTests.cat2 (l1 l2 : List (List Int)) : slices_Concat_int_int.cat (fun x => if x = 0 then l1 else l2) 2 = l1 ++ l2 := by
  simp [slices_Concat_int_int.cat, List.range_succ]
set_option maxHeartbeats 2000000 in
set_option maxRecDepth 100000 in
theorem impl_JoinTests.calls (k : Nat) (a0 : Int) (A1 : Option Addr) (c1 : Nat) (l1 : List (List Int)) (A2 : Option Addr) (c2 : Nat) (l2 : List (List Int)) (r1 : List (List Int)) (r2 : Bool) (w : World) (hr1 : Kd.C (Kd.slice 3 (Kd.int .i64)) w A1 l1.length l1) (hc1 : l1.length ≤ c1) (hr2 : Kd.C (Kd.slice 3 (Kd.int .i64)) w A2 l2.length l2) (hc2 : l2.length ≤ c2) (h : impl_JoinTests.f k a0 l1 l2 = some (r1, r2)) :
    Calls Try.prog 25 #[.int .i64 a0, .slice A1 l1.length c1, .slice A2 l2.length c2] w fun e w' => ∃ v0_ : Value, e = .returned (.tuple #[v0_, .bool r2]) ∧ Kd.S (Kd.slice 3 (Kd.int .i64)) 32 w' w.heap.size (fun _ => True) v0_ r1 ∧ Below w.heap.size w w' := by
  have HR1 := Aside0.mk hr1
  have HC1 := Aside0.mk hc1
  have HR2 := Aside0.mk hr2
  have HC2 := Aside0.mk hc2
  clear hr1 hc1 hr2 hc2
  unfold impl_JoinTests.f at h
  by_cases hsz : l1.length + l2.length ≤ 3000000
  case neg => rw [if_neg hsz] at h; cases h
  rw [if_pos hsz] at h
  have HS := Aside0.mk hsz
  have H := Aside0.mk h
  clear h hsz
  go_enter Try.func25, Try.ntmps25
  go_wp2_with fail
  refine (slices_Concat_int_int.concat 2 w.heap.size (fun x => if x = 0 then l1 else l2) (fun x => if x = 0 then A1 else A2) (fun x => if x = 0 then c1 else c2) _ (by decide) (fun x hx => ?_) (fun x hx => ?_) (by rw [impl_JoinTests.cat2, List.length_append]; exact HS.out)).mono ?_
  · have e := blk_cell (heap_alloc_new w (.cells #[.slice A1 l1.length c1, .slice A2 l2.length c2] 22)) x
    have hx' : x = 0 ∨ x = 1 := by omega
    rcases hx' with rfl | rfl
    · exact e.trans rfl
    · exact e.trans rfl
  · have hx' : x = 0 ∨ x = 1 := by omega
    rcases hx' with rfl | rfl
    · exact Kd.C_alloc HR1.out _
    · exact Kd.C_alloc HR2.out _
  obtain ⟨l, el⟩ : ∃ l, l = l1 ++ l2 := ⟨_, rfl⟩
  have HLEN := Aside0.mk (show l.length = l1.length + l2.length by rw [el, List.length_append])
  rw [impl_JoinTests.cat2, ← el]
  rw [← el] at H
  clear el
  rintro e w2 ⟨A3, c3, rfl, hc3, hC3, hb⟩
  have B2 := Aside0.mk (below_step (below_alloc (Below.refl w.heap.size w) (.cells #[.slice A1 l1.length c1, .slice A2 l2.length c2] 22)) hb)
  have HC3 := Aside0.mk hc3
  have HR3 := Aside0.mk hC3
  clear hc3 hC3 hb
  replace H := Aside0.mk (Option.bind_eq_some_iff.mp H.out)
  obtain ⟨t1, ht1, h⟩ := H.out
  clear H
  have T1 := Aside0.mk ht1
  clear ht1
  cases t1 with
  | false =>
    rw [if_neg (by decide)] at h
    obtain ⟨rfl, rfl⟩ := Prod.mk.inj (Option.some.inj h)
    clear h
    go_wp2_with fail
    refine (impl_AreTests.calls a0 A1 c1 l1 false _ (Kd.C_below HR1.out B2.out) HC1.out T1.out).mono ?_
    rintro e w3 ⟨rfl, hb⟩
    have B3 := Aside0.mk (below_step B2.out hb)
    clear hb
    go_wp2
    go_ret2
    exact ⟨_, rfl, Kd.S_nil _ _ _ _ _, B3.out⟩
  | true =>
    rw [if_pos rfl] at h
    replace h := Option.bind_eq_some_iff.mp h
    obtain ⟨t2, ht2, h⟩ := h
    have T2 := Aside0.mk ht2
    clear ht2
    have H := Aside0.mk h
    clear h
    go_wp2_with fail
    refine (impl_AreTests.calls a0 A1 c1 l1 true _ (Kd.C_below HR1.out B2.out) HC1.out T1.out).mono ?_
    rintro e w3 ⟨rfl, hb⟩
    have B3 := Aside0.mk (below_step B2.out hb)
    have R3 := Aside0.mk (Kd.C_below HR3.out hb)
    clear hb HR3
    cases t2 with
    | false =>
      have h := H.out
      rw [if_neg (by decide)] at h
      obtain ⟨rfl, rfl⟩ := Prod.mk.inj (Option.some.inj h)
      clear h H
      go_wp2_with fail
      refine (impl_AreTests.calls a0 A2 c2 l2 false _ (Kd.C_below HR2.out B3.out) HC2.out T2.out).mono ?_
      rintro e w4 ⟨rfl, hb⟩
      have B4 := Aside0.mk (below_step B3.out hb)
      clear hb
      go_wp2
      go_ret2
      exact ⟨_, rfl, Kd.S_nil _ _ _ _ _, B4.out⟩
    | true =>
      have h := H.out
      rw [if_pos rfl] at h
      clear H
      go_wp2_with fail
      refine (impl_AreTests.calls a0 A2 c2 l2 true _ (Kd.C_below HR2.out B3.out) HC2.out T2.out).mono ?_
      rintro e w4 ⟨rfl, hb⟩
      have B4 := Aside0.mk (below_step B3.out hb)
      have R4 := Aside0.mk (Kd.C_below R3.out hb)
      clear hb R3
      have hlen := HLEN.out
      by_cases h12 : 12 < l1.length + l2.length
      · rw [if_pos h12] at h
        obtain ⟨rfl, rfl⟩ := Prod.mk.inj (Option.some.inj h)
        have d0 : decide (12 < l.length) = true := decide_eq_true (by omega)
        have d1 : decide (12 < (l.length : Int)) = true := decide_eq_true (by omega)
        clear h h12 hlen
        go_wp2
        go_ret2
        exact ⟨_, rfl, Kd.S_nil _ _ _ _ _, B4.out⟩
      · rw [if_neg h12] at h
        have d0 : decide (12 < l.length) = false := decide_eq_false (by omega)
        have d1 : decide (12 < (l.length : Int)) = false := decide_eq_false (by omega)
        replace h := Option.bind_eq_some_iff.mp h
        obtain ⟨o, ho, h⟩ := h
        obtain ⟨rfl, rfl⟩ := Prod.mk.inj (Option.some.inj h)
        have HO := Aside0.mk ho
        clear h h12 hlen ho
        go_wp2_with fail
        refine (impl_copyLists.calls k A3 c3 l o _ R4.out HC3.out HO.out).mono ?_
        rintro e w5 ⟨v5, rfl, hv, hb⟩
        have O5 := Aside0.mk (Kd.S_lower hv B4.out.size)
        have B5 := Aside0.mk (below_step B4.out hb)
        clear hv hb
        go_wp2
        go_ret2
        exact ⟨_, rfl, O5.out, B5.out⟩


end Go.Proofs.Ythkoignldhocgab.PFnExactJoinTests
