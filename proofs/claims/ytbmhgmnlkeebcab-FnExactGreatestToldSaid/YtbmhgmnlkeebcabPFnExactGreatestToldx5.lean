-- Written by a program of this claim, over the kit's print: the functions that a law reaches, their plain forms and the walks.
import Derived.Test.YtbmhgmnlkeebcabPFnExactGreatestToldx0
import Derived.Test.YtbmhgmnlkeebcabPFnExactGreatestToldx1
import Derived.Test.YtbmhgmnlkeebcabPFnExactGreatestToldx3
import Derived.Test.YtbmhgmnlkeebcabPFnExactGreatestToldx4
namespace Go.Proofs.Ytbmhgmnlkeebcab.PFnExactGreatestTold
open Go.RowKit Go.Proofs.YtbmhgmnlkeebcabW.PrintWords Go.Proofs.YtbmhgmnlkeebcabW.PrintLast Go.Proofs.YtbmhgmnlkeebcabW.PrintMore
attribute [local go_sem] max2_int min2_int max_two min_two max_three min_three max_four min_four   -- for this text's walks alone
set_option linter.unusedVariables false
set_option linter.unusedSimpArgs false

/-! ### impl_tellsUpTo: function 35 -/
section
open Go.Maps
/-- A look-up of a bool in a map of the call's own. -/
theorem impl_tellsUpTo.lookup_bool {H : Type} {P : Program} {w : World} {k t e b n : Nat} {D : DataW H} (h : w.ownsMap P k (plainElem P e) b n D) (K : Keyed P k) (ht : P.underlying t = some (.map k e)) (he : P.underlying e = some .bool) (hz : (zeroValue e).run P w = .ok (.bool false) w)
    {key : Value} {kl : Lit} (hkey : keyOf P k key = some kl) : ∃ c : Bool, (Instr.lookup t (.map (some b)) key false).run P w = .ok (.bool c) w ∧ D.atKey kl (.lit (.bool false)) = .lit (.bool c) := by
  obtain ⟨v, ps, hrun, hv⟩ := h.lookup K ht hz (plainElem_bool he false) hkey
  unfold plainElem at hv
  rw [he] at hv
  cases v <;> simp at hv
  rename_i c
  exact ⟨c, hrun, hv.1.symm⟩
theorem impl_tellsUpTo.zero4 (w : World) : (zeroValue 4).run Try.prog w = .ok (.bool false) w := by kernel_rfl
/-- The block is a map, and holds of the texts seen, true. -/
def impl_tellsUpTo.Inv (w : World) (b : Nat) (seen : List (List UInt8)) : Prop := ∃ D : DataW Unit, w.ownsMap Try.prog 9 (plainElem Try.prog 4) b seen.length D ∧ IsMap D ∧ ∀ k, D.atKey (.string k) (.lit (.bool false)) = .lit (.bool (decide (k ∈ seen)))
theorem impl_tellsUpTo.Inv.below {w w' : World} {b : Nat} {seen : List (List UInt8)} (h : impl_tellsUpTo.Inv w b seen) (hb : Below w.heap.size w w') : impl_tellsUpTo.Inv w' b seen := by
  obtain ⟨D, h1, h2, h3⟩ := h
  exact ⟨D, h1.kept (row := none) ⟨hb.os, hb.tape, hb.output, hb.size, fun i hi _ => hb.block i hi⟩ (by simp), h2, h3⟩
theorem impl_tellsUpTo.Inv.put {w : World} {b : Nat} {seen : List (List UInt8)} {key : List UInt8} {D : DataW Unit} (h1 : w.ownsMap Try.prog 9 (plainElem Try.prog 4) b (seen.length + 1) (D.put (.string key) (.lit (.bool true)))) (h2 : IsMap D) (h3 : ∀ k, D.atKey (.string k) (.lit (.bool false)) = .lit (.bool (decide (k ∈ seen)))) : impl_tellsUpTo.Inv w b (seen ++ [key]) := by
  refine ⟨_, by rw [List.length_append]; exact h1, h2.put _ _, fun k => ?_⟩
  by_cases e : k = key
  · subst e
    rw [atKey_put_same h2 (by simp [WideAt.IsKeyLit])]
    simp
  · rw [atKey_put_other (by intro h; injection h with h; exact e h), h3]
    simp [e]
theorem impl_tellsUpTo.Inv.made (w : World) : impl_tellsUpTo.Inv (w.alloc (.map #[] 0)) w.heap.size [] := ⟨_, World.ownsMap_made w _ _ _, isMap_empty, fun k => by simp [DataW.atKey]⟩
end
def impl_tellsUpTo.l0 : Nat → List (List Int) → Int → Int → List (List UInt8) → Int → Option Bool
  | 0, _, _, _, _, _ => none
  | k + 1, l1, most, lim, seen, set => if set < lim then (bits_OnesCount16.f set).bind fun c => (if c > most then impl_tellsUpTo.l0 k l1 most lim seen (IntKind.u16.wrap (set + 1)) else (impl_results.f k l1 set).bind fun key => (if key.size ≤ maxLen ∧ seen.length < 1000000 then (if key.data.toList ∈ seen then some false else impl_tellsUpTo.l0 k l1 most lim (seen ++ [key.data.toList]) (IntKind.u16.wrap (set + 1))) else none)) else some true
def impl_tellsUpTo.f (k : Nat) (a0 : Int) (l1 : List (List Int)) (a2 : Int) : Option Bool := if 0 ≤ a0 ∧ a0 ≤ 15 then impl_tellsUpTo.l0 k l1 a2 (shl .u16 1 a0) [] 0 else none
theorem impl_tellsUpTo.mono_l : ∀ k l1 most lim seen set, LeO (impl_tellsUpTo.l0 k l1 most lim seen set) (impl_tellsUpTo.l0 (k + 1) l1 most lim seen set)
  | 0, _, _, _, _, _ => fun r h => by simp [impl_tellsUpTo.l0] at h
  | k + 1, l1, most, lim, seen, set => by
    unfold impl_tellsUpTo.l0
    exact LeO.ite (LeO.bind (LeO.refl _) (fun _ => LeO.ite (impl_tellsUpTo.mono_l k _ _ _ _ _) (LeO.bind (impl_results.mono _ _ _) (fun _ => LeO.ite (LeO.ite (LeO.refl _) (impl_tellsUpTo.mono_l k _ _ _ _ _)) (LeO.none _))))) (LeO.refl _)
theorem impl_tellsUpTo.mono : ∀ a0 l1 a2 k, LeO (impl_tellsUpTo.f k a0 l1 a2) (impl_tellsUpTo.f (k + 1) a0 l1 a2) := fun _ _ _ k => LeO.ite (impl_tellsUpTo.mono_l k _ _ _ _ _) (LeO.none _)
set_option maxHeartbeats 2000000 in
set_option maxRecDepth 100000 in
theorem impl_tellsUpTo.calls (k : Nat) (a0 : Int) (A1 : Option Addr) (c1 : Nat) (l1 : List (List Int)) (a2 : Int) (r : Bool) (w : World) (hr1 : Kd.C (Kd.slice 3 (Kd.int .i64)) w A1 l1.length l1) (hc1 : l1.length ≤ c1) (h : impl_tellsUpTo.f k a0 l1 a2 = some r) :
    Calls Try.prog 35 #[.int .i64 a0, .slice A1 l1.length c1, .int .i64 a2] w fun e w' => e = .returned (.bool r) ∧ Below w.heap.size w w' := by
  unfold impl_tellsUpTo.f at h
  split at h
  case isFalse => cases h
  rename_i hb
  have H := Aside0.mk h
  have HR := Aside0.mk hr1
  have HC := Aside0.mk hc1
  have hmm := @run_makeMap Try.prog
  clear h hr1 hc1
  go_enter Try.func35, Try.ntmps35
  have hs0 : shl .u16 1 a0 = IntKind.u16.wrap (2 ^ a0.toNat) := by unfold shl; rw [Nat.min_eq_left (by simp only [IntKind.bits]; omega), Int.one_mul]
  rw [hs0] at H
  clear hs0
  have M0 : Aside0 (impl_tellsUpTo.Inv (w.alloc (.map #[] 0)) w.heap.size []) := ⟨impl_tellsUpTo.Inv.made w⟩
  have B0 : Aside0 (Below w.heap.size w (w.alloc (.map #[] 0))) := ⟨(Below.refl _ _).alloc (Nat.le_refl _) _⟩
  have S0 : Aside0 (0 ≤ (0 : Int)) := ⟨Int.le_refl _⟩
  go_wp2
  clear hmm
  generalize w.alloc (.map #[] 0) = w1 at M0 B0 ⊢
  generalize hlim : IntKind.u16.wrap (2 ^ a0.toNat) = lim at H ⊢
  go_loopg [13] k (fun gg v13 wr => ∃ (set : Int) (seen : List (List UInt8)), v13 = .int .u16 set ∧ Aside0 (impl_tellsUpTo.l0 gg l1 a2 lim seen set = some r) ∧ Aside0 (impl_tellsUpTo.Inv wr w.heap.size seen) ∧ Aside0 (Below w.heap.size w wr))
  case atStart => exact ⟨0, [], rfl, H, M0, B0⟩
  case round =>
    clear M0 B0 S0 H
    obtain ⟨set, seen, rfl, HA, M, BW⟩ := hrel
    cases gk with
    | zero => exact absurd HA.out (by simp [impl_tellsUpTo.l0])
    | succ k1 =>
      have H := HA.out
      clear HA
      simp only [impl_tellsUpTo.l0] at H
      by_cases b0 : set < lim
      · rw [if_pos b0] at H
        replace H := Option.bind_eq_some_iff.mp H
        obtain ⟨c, hc, H⟩ := H
        have b0b := decide_eq_true b0
        have HC1 := Aside0.mk hc
        clear hc b0
        by_cases b1 : a2 < c
        · rw [if_pos b1] at H
          have b1b := decide_eq_true b1
          have H' := Aside0.mk H
          clear b1 H
          go_wp2_with fail
          refine (bits_OnesCount16.calls set c _ HC1.out).mono ?_
          rintro e w3 ⟨rfl, ⟨nd, rfl⟩⟩
          have B3 := Aside0.mk (pw_below_drewN (Below.refl wr.heap.size wr) nd)
          have M3 := Aside0.mk (M.out.below B3.out)
          have BW3 := Aside0.mk (below_step BW.out B3.out)
          generalize wr.drewN nd = w3 at M3 BW3 ⊢
          clear M BW B3
          go_wp2
          go_roundg k1
          case measure => omega
          case rel => exact ⟨_, seen, rfl, H', M3, BW3⟩
        · rw [if_neg b1] at H
          have b1b := decide_eq_false b1
          replace H := Option.bind_eq_some_iff.mp H
          obtain ⟨key, hkey, H⟩ := H
          by_cases b2 : key.size ≤ maxLen ∧ seen.length < 1000000
          case neg => rw [if_neg b2] at H; cases H
          rw [if_pos b2] at H
          have HK := Aside0.mk hkey
          have H2 := Aside0.mk b2
          have H' := Aside0.mk H
          clear H hkey b2 b1
          go_wp2_with fail
          refine (bits_OnesCount16.calls set c _ HC1.out).mono ?_
          rintro e w3 ⟨rfl, ⟨nd, rfl⟩⟩
          have B3 := Aside0.mk (pw_below_drewN (Below.refl wr.heap.size wr) nd)
          have M3 := Aside0.mk (M.out.below B3.out)
          have BW3 := Aside0.mk (below_step BW.out B3.out)
          generalize wr.drewN nd = w3 at M3 BW3 ⊢
          clear M BW B3
          go_wp2_with fail
          refine (impl_results.calls k1 A1 c1 l1 set key w3 (Kd.C_below HR.out BW3.out) HC.out HK.out).mono ?_
          rintro e w4 ⟨rfl, hb⟩
          have M4 := Aside0.mk (M3.out.below hb)
          have BW4 := Aside0.mk (below_step BW3.out hb)
          clear hb M3 BW3
          have hkl : keyOf Try.prog 9 (.string key) = some (.string key.data.toList) := by
            have := H2.out.1
            simp [keyOf, mapKey, Try.underlying9, this]
          obtain ⟨D, hown, hD, hat⟩ := M4.out
          obtain ⟨q, hrun, hq⟩ := impl_tellsUpTo.lookup_bool hown (Go.Maps.string_keyed Try.underlying9) Try.underlying60 Try.underlying4 (impl_tellsUpTo.zero4 _) hkl
          rw [hat] at hq
          have hq' : q = decide (key.data.toList ∈ seen) := by injection hq with hq; injection hq with hq; exact hq.symm
          clear hq
          by_cases b3 : key.data.toList ∈ seen
          · rw [decide_eq_true b3] at hq'
            subst hq'
            have h := H'.out
            rw [if_pos b3] at h
            obtain rfl := Option.some.inj h
            clear h
            go_wp2
            go_ret
            exact ⟨rfl, BW4.out⟩
          · rw [decide_eq_false b3] at hq'
            subst hq'
            have h := H'.out
            rw [if_neg b3] at h
            have H6 := Aside0.mk h
            obtain ⟨w5, hupd, hown5, hg5⟩ := hown.update (Go.Maps.string_keyed Try.underlying9) Try.underlying60 (by have := H2.out.2; simp only [maxLen]; omega) hkl (plainElem_bool Try.underlying4 true)
            have BW5 := Aside0.mk (BW4.out.grown hg5 BW4.out.size (fun k hk => by injection hk with hk; omega))
            have M5 : Aside0 (impl_tellsUpTo.Inv w5 w.heap.size (seen ++ [key.data.toList])) := ⟨impl_tellsUpTo.Inv.put hown5 hD hat⟩
            clear h H' hown hat hown5 hg5 hD BW4 M4
            go_wp2
            go_roundg k1
            case measure => omega
            case rel => exact ⟨_, _, rfl, H6, M5, BW5⟩
      · rw [if_neg b0] at H
        have b0b := decide_eq_false b0
        obtain rfl := Option.some.inj H
        clear b0 H
        go_wp2
        go_ret
        exact ⟨rfl, BW.out⟩


/-! ### impl_GreatestTold: function 15 -/
def impl_GreatestTold.l0 : Nat → Int → List (List Int) → Int → Option (Int × Bool)
  | 0, _, _, _ => none
  | k + 1, x0, x1, x6 => if x6 < x0 then ((impl_tellsUpTo.f k x0 x1 (wrap64 (x6 + 1))).bind fun t181 => (if t181 = true then (impl_GreatestTold.l0 k x0 x1 (wrap64 (x6 + 1))) else (some (x6, true)))) else (some (x6, true))
def impl_GreatestTold.f (k : Nat) (a0 : Int) (l1 : List (List Int)) : Option (Int × Bool) := (impl_AreTests.f a0 l1).bind fun t180 => (if t180 = true then (impl_GreatestTold.l0 k a0 l1 0) else (some (0, false)))
theorem impl_GreatestTold.mono_l : ∀ k, (∀ y0 y1 y2, LeO (impl_GreatestTold.l0 k y0 y1 y2) (impl_GreatestTold.l0 (k + 1) y0 y1 y2))
  | 0 => fun _ _ _ r h => by simp [impl_GreatestTold.l0] at h
  | k + 1 => by
    have ih0 := impl_GreatestTold.mono_l k
    · intro y0 y1 y2
      unfold impl_GreatestTold.l0
      repeat' first
      | (with_reducible exact ih0 _ _ _)
      | (with_reducible exact impl_tellsUpTo.mono _ _ _ _)
      | (with_reducible exact LeO.refl _)
      | (with_reducible exact LeO.none _)
      | (with_reducible refine LeO.ite ?_ ?_)
      | (with_reducible refine LeO.bind ?_ (fun _ => ?_))
      | exact ih0 _ _ _
      | exact impl_tellsUpTo.mono _ _ _ _
      | exact LeO.none _
      | refine LeO.ite ?_ ?_
      | refine LeO.bind ?_ (fun _ => ?_)
theorem impl_GreatestTold.mono : ∀ a0 a1 k, LeO (impl_GreatestTold.f k a0 a1) (impl_GreatestTold.f (k + 1) a0 a1) := by
  intro a0 a1 k
  have ih0 := impl_GreatestTold.mono_l k
  unfold impl_GreatestTold.f
  repeat' first
      | (with_reducible exact ih0 _ _ _)
      | (with_reducible exact impl_tellsUpTo.mono _ _ _ _)
      | (with_reducible exact LeO.refl _)
      | (with_reducible exact LeO.none _)
      | (with_reducible refine LeO.ite ?_ ?_)
      | (with_reducible refine LeO.bind ?_ (fun _ => ?_))
      | exact ih0 _ _ _
      | exact impl_tellsUpTo.mono _ _ _ _
      | exact LeO.none _
      | refine LeO.ite ?_ ?_
      | refine LeO.bind ?_ (fun _ => ?_)
set_option maxHeartbeats 8000000 in
set_option maxRecDepth 100000 in
theorem impl_GreatestTold.calls (k : Nat) (a0 : Int) (A1 : Option Addr) (c1 : Nat) (l1 : List (List Int)) (r1 : Int) (r2 : Bool) (w : World) (hr1 : Kd.C (Kd.slice 3 (Kd.int .i64)) w A1 l1.length l1) (hc1 : l1.length ≤ c1) (h : impl_GreatestTold.f k a0 l1 = some (r1, r2)) :
    Calls Try.prog 15 #[.int .i64 a0, .slice A1 l1.length c1] w fun e w' => e = .returned (.tuple #[.int .i64 r1, .bool r2]) ∧ Below w.heap.size w w' := by
  have HR1 := Aside0.mk hr1
  have HC1 := Aside0.mk hc1
  clear hr1 hc1
  have HB := Aside0.mk (Below.refl w.heap.size w)
  have H : ((impl_AreTests.f a0 l1).bind fun t180 => (if t180 = true then (impl_GreatestTold.l0 k a0 l1 0) else (some (0, false)))) = some (r1, r2) := h
  clear h
  replace H := Option.bind_eq_some_iff.mp H
  obtain ⟨t180, A30, H⟩ := H
  replace H : (if t180 = true then (impl_GreatestTold.l0 k a0 l1 0) else (some (0, false))) = some (r1, r2) := H
  have A3 := Aside0.mk A30
  clear A30
  by_cases c4 : t180 = true
  · subst c4
    have H1 : (impl_GreatestTold.l0 k a0 l1 0) = some (r1, r2) := by rw [if_pos rfl] at H; exact H
    clear H
    have H := H1
    clear H1
    have H' := Aside0.mk H
    clear H
    go_enter Try.func15, Try.ntmps15
    go_wp2_with (first | ((with_reducible refine gate_callee (f := 33) rfl ?_); refine goesL_ (some 9) rfl rfl Try.func33 (by kernel_rfl) rfl #[.int .i64 a0, .slice A1 l1.length c1] rfl (by (try simp only [List.map_toArray, List.map_cons, List.map_nil]); first | done | rfl | (simp only [List.length_drop, List.length_take]; rfl) | (simp; done) | (refine congrArg Value.bool ?_; simp; done) | (refine congrArg (fun z_ => #[Value.bool z_]) ?_; simp; done)) ?_; (with_reducible refine (impl_AreTests.calls a0 _ _ l1 true _ ?side1 ?side2 A3.out).mono ?_); (case side1 => repeat (first | exact HR1.out | (with_reducible refine Kd.C_alloc ?_ _) | (with_reducible refine Kd.C_drewN ?_ _) | (with_reducible refine Kd.C_drew ?_))); (case side2 => exact HC1.out); rintro e w5 ⟨rfl, hb⟩; refine ⟨_, rfl, ?_⟩; have n0_ := Aside0.mk (below_step (by repeat (first | (with_reducible first | exact HB.out | apply below_alloc | apply pw_below_drewN | apply below_drew1) | exact HB.out)) hb); clear HB; have HB := n0_; clear n0_; (try clear hb); (try clear hb2); (try clear hk); (try clear hi)))
    go_loopg [6] k (fun kq v6 w' => ∃ (x6_1 : Int), v6 = .int .i64 x6_1 ∧ Aside0 (impl_GreatestTold.l0 kq a0 l1 x6_1 = some (r1, r2)) ∧ Aside0 (kq ≤ k) ∧ Aside0 (Below w.heap.size w w'))
    case atStart => exact ⟨(0), (by first | rfl | (simp; done) | (simp [*]; done)), H', ⟨Nat.le_refl _⟩, ⟨by repeat (first | (with_reducible first | exact HB.out | apply below_alloc | apply pw_below_drewN | apply below_drew1) | exact HB.out)⟩⟩
    case round =>
      clear H'
      try clear c1
      try clear p2
      try clear c3
      try clear c4
      obtain ⟨x6_1, rfl, HA, HK1, HB⟩ := hrel
      cases gk with
      | zero => exact absurd HA.out (by simp [impl_GreatestTold.l0])
      | succ k1 =>
        have H := HA.out
        clear HA
        simp only [impl_GreatestTold.l0] at H
        by_cases c6 : x6_1 < a0
        · rw [if_pos c6] at H
          have c6b0 : decide (x6_1 < a0) = true := decide_eq_true c6
          clear c6
          replace H := Option.bind_eq_some_iff.mp H
          obtain ⟨t181, A70, H⟩ := H
          replace H : (if t181 = true then (impl_GreatestTold.l0 k1 a0 l1 (wrap64 (x6_1 + 1))) else (some (x6_1, true))) = some (r1, r2) := H
          have A7 := Aside0.mk A70
          clear A70
          by_cases c8 : t181 = true
          · subst c8
            have H1 : (impl_GreatestTold.l0 k1 a0 l1 (wrap64 (x6_1 + 1))) = some (r1, r2) := by rw [if_pos rfl] at H; exact H
            clear H
            have H := H1
            clear H1
            have H' := Aside0.mk H
            clear H
            go_wp2_with (first | (go_at_call 35; (with_reducible refine (impl_tellsUpTo.calls k1 a0 _ _ l1 (wrap64 (x6_1 + 1)) true _ ?side1 ?side2 A7.out).mono ?_); (case side1 => repeat (first | exact (Kd.C_below HR1.out HB.out) | (with_reducible refine Kd.C_alloc ?_ _) | (with_reducible refine Kd.C_drewN ?_ _) | (with_reducible refine Kd.C_drew ?_))); (case side2 => exact HC1.out); rintro e w9 ⟨rfl, hb⟩; have n0_ := Aside0.mk (below_step (by repeat (first | (with_reducible first | exact HB.out | apply below_alloc | apply pw_below_drewN | apply below_drew1) | exact HB.out)) hb); clear HB; have HB := n0_; clear n0_; (try clear hb); (try clear hb2); (try clear hk); (try clear hi)))
            go_roundg k1
            case measure => have := HK1.out; omega
            case rel => exact ⟨(wrap64 (x6_1 + 1)), (by first | rfl | (simp; done) | (simp [*]; done)), H', ⟨by have := HK1.out; omega⟩, ⟨by repeat (first | (with_reducible first | exact HB.out | apply below_alloc | apply pw_below_drewN | apply below_drew1) | exact HB.out)⟩⟩
          · replace c8 := Bool.eq_false_iff.mpr c8
            subst c8
            have H1 : (some (x6_1, true)) = some (r1, r2) := by rw [if_neg (show ¬ (false = true) by decide)] at H; exact H
            clear H
            have H := H1
            clear H1
            simp only [Option.some.injEq, Prod.mk.injEq] at H
            obtain ⟨rfl, rfl⟩ := H
            go_wp2_with (first | (go_at_call 35; (with_reducible refine (impl_tellsUpTo.calls k1 a0 _ _ l1 (wrap64 (x6_1 + 1)) false _ ?side1 ?side2 A7.out).mono ?_); (case side1 => repeat (first | exact (Kd.C_below HR1.out HB.out) | (with_reducible refine Kd.C_alloc ?_ _) | (with_reducible refine Kd.C_drewN ?_ _) | (with_reducible refine Kd.C_drew ?_))); (case side2 => exact HC1.out); rintro e w10 ⟨rfl, hb⟩; have n0_ := Aside0.mk (below_step (by repeat (first | (with_reducible first | exact HB.out | apply below_alloc | apply pw_below_drewN | apply below_drew1) | exact HB.out)) hb); clear HB; have HB := n0_; clear n0_; (try clear hb); (try clear hb2); (try clear hk); (try clear hi)))
            go_ret2
            exact ⟨by first | rfl | (simp [errW_none, errW_some] <;> rfl) | (simp [*, errW_none, errW_some] <;> rfl), by repeat (first | (with_reducible first | exact HB.out | apply below_alloc | apply pw_below_drewN | apply below_drew1) | exact HB.out)⟩
        · rw [if_neg c6] at H
          have c6b0 : decide (x6_1 < a0) = false := decide_eq_false c6
          clear c6
          simp only [Option.some.injEq, Prod.mk.injEq] at H
          obtain ⟨rfl, rfl⟩ := H
          go_wp2
          go_ret2
          exact ⟨by first | rfl | (simp [errW_none, errW_some] <;> rfl) | (simp [*, errW_none, errW_some] <;> rfl), by repeat (first | (with_reducible first | exact HB.out | apply below_alloc | apply pw_below_drewN | apply below_drew1) | exact HB.out)⟩
  · replace c4 := Bool.eq_false_iff.mpr c4
    subst c4
    have H1 : (some (0, false)) = some (r1, r2) := by rw [if_neg (show ¬ (false = true) by decide)] at H; exact H
    clear H
    have H := H1
    clear H1
    simp only [Option.some.injEq, Prod.mk.injEq] at H
    obtain ⟨rfl, rfl⟩ := H
    go_enter Try.func15, Try.ntmps15
    go_wp2_with (first | ((with_reducible refine gate_callee (f := 33) rfl ?_); refine goesL_ (some 9) rfl rfl Try.func33 (by kernel_rfl) rfl #[.int .i64 a0, .slice A1 l1.length c1] rfl (by (try simp only [List.map_toArray, List.map_cons, List.map_nil]); first | done | rfl | (simp only [List.length_drop, List.length_take]; rfl) | (simp; done) | (refine congrArg Value.bool ?_; simp; done) | (refine congrArg (fun z_ => #[Value.bool z_]) ?_; simp; done)) ?_; (with_reducible refine (impl_AreTests.calls a0 _ _ l1 false _ ?side1 ?side2 A3.out).mono ?_); (case side1 => repeat (first | exact HR1.out | (with_reducible refine Kd.C_alloc ?_ _) | (with_reducible refine Kd.C_drewN ?_ _) | (with_reducible refine Kd.C_drew ?_))); (case side2 => exact HC1.out); rintro e w11 ⟨rfl, hb⟩; refine ⟨_, rfl, ?_⟩; have n0_ := Aside0.mk (below_step (by repeat (first | (with_reducible first | exact HB.out | apply below_alloc | apply pw_below_drewN | apply below_drew1) | exact HB.out)) hb); clear HB; have HB := n0_; clear n0_; (try clear hb); (try clear hb2); (try clear hk); (try clear hi)))
    go_ret2
    exact ⟨by first | rfl | (simp [errW_none, errW_some] <;> rfl) | (simp [*, errW_none, errW_some] <;> rfl), by repeat (first | (with_reducible first | exact HB.out | apply below_alloc | apply pw_below_drewN | apply below_drew1) | exact HB.out)⟩

/-! ### laws_FnExactGreatestTold: function 4 -/
def laws_FnExactGreatestTold.j0 : Nat → List (List Int) → List (List Int) → Bool → Option (Bool)
  | 0, _, _, _ => none
  | k + 1, x1, x8, x38 => if x38 = true then (some false) else ((laws_toIntSS.f k x1).bind fun t193 => ((laws_eqIntSS.f k x8 t193).bind fun t196 => (if t196 = true then (some true) else (some false))))
def laws_FnExactGreatestTold.f (k : Nat) (a0 : Int) (l1 : List (List Int)) : Option (Bool) := (laws_szIntSS.f k l1 1048576).bind fun t182 => (if t182 < 0 then (some true) else ((laws_toIntSS.f k l1).bind fun t183 => ((spec_GreatestTold.f k a0 t183).bind fun bt186 => ((laws_toIntSS.f k l1).bind fun t188 => ((impl_GreatestTold.f k a0 t188).bind fun bt191 => (if bt191.1 = bt186.1 then (laws_FnExactGreatestTold.j0 k l1 t188 (bt191.2 != bt186.2)) else (laws_FnExactGreatestTold.j0 k l1 t188 true)))))))
theorem laws_FnExactGreatestTold.mono_l : ∀ k, (∀ y0 y1 y2, LeO (laws_FnExactGreatestTold.j0 k y0 y1 y2) (laws_FnExactGreatestTold.j0 (k + 1) y0 y1 y2))
  | 0 => fun _ _ _ r h => by simp [laws_FnExactGreatestTold.j0] at h
  | k + 1 => by
    have ih0 := laws_FnExactGreatestTold.mono_l k
    · intro y0 y1 y2
      unfold laws_FnExactGreatestTold.j0
      repeat' first
      | (with_reducible exact ih0 _ _ _)
      | (with_reducible exact impl_GreatestTold.mono _ _ _)
      | (with_reducible exact laws_eqIntSS.mono _ _ _)
      | (with_reducible exact laws_szIntSS.mono _ _ _)
      | (with_reducible exact laws_toIntSS.mono _ _)
      | (with_reducible exact spec_GreatestTold.mono _ _ _)
      | (with_reducible exact LeO.refl _)
      | (with_reducible exact LeO.none _)
      | (with_reducible refine LeO.ite ?_ ?_)
      | (with_reducible refine LeO.bind ?_ (fun _ => ?_))
      | exact ih0 _ _ _
      | exact impl_GreatestTold.mono _ _ _
      | exact laws_eqIntSS.mono _ _ _
      | exact laws_szIntSS.mono _ _ _
      | exact laws_toIntSS.mono _ _
      | exact spec_GreatestTold.mono _ _ _
      | exact LeO.none _
      | refine LeO.ite ?_ ?_
      | refine LeO.bind ?_ (fun _ => ?_)
theorem laws_FnExactGreatestTold.mono : ∀ a0 a1 k, LeO (laws_FnExactGreatestTold.f k a0 a1) (laws_FnExactGreatestTold.f (k + 1) a0 a1) := by
  intro a0 a1 k
  have ih0 := laws_FnExactGreatestTold.mono_l k
  unfold laws_FnExactGreatestTold.f
  repeat' first
      | (with_reducible exact ih0 _ _ _)
      | (with_reducible exact impl_GreatestTold.mono _ _ _)
      | (with_reducible exact laws_eqIntSS.mono _ _ _)
      | (with_reducible exact laws_szIntSS.mono _ _ _)
      | (with_reducible exact laws_toIntSS.mono _ _)
      | (with_reducible exact spec_GreatestTold.mono _ _ _)
      | (with_reducible exact LeO.refl _)
      | (with_reducible exact LeO.none _)
      | (with_reducible refine LeO.ite ?_ ?_)
      | (with_reducible refine LeO.bind ?_ (fun _ => ?_))
      | exact ih0 _ _ _
      | exact impl_GreatestTold.mono _ _ _
      | exact laws_eqIntSS.mono _ _ _
      | exact laws_szIntSS.mono _ _ _
      | exact laws_toIntSS.mono _ _
      | exact spec_GreatestTold.mono _ _ _
      | exact LeO.none _
      | refine LeO.ite ?_ ?_
      | refine LeO.bind ?_ (fun _ => ?_)
set_option maxHeartbeats 8000000 in
set_option maxRecDepth 100000 in
theorem laws_FnExactGreatestTold.calls (k : Nat) (a0 : Int) (A1 : Option Addr) (c1 : Nat) (l1 : List (List Int)) (r : Bool) (w : World) (hr1 : Kd.C (Kd.slice 3 (Kd.int .i64)) w A1 l1.length l1) (hc1 : l1.length ≤ c1) (h : laws_FnExactGreatestTold.f k a0 l1 = some r) :
    Calls Try.prog 4 #[.int .i64 a0, .slice A1 l1.length c1] w fun e w' => e = .returned (.bool r) ∧ Below w.heap.size w w' := by
  have HR1 := Aside0.mk hr1
  have HC1 := Aside0.mk hc1
  clear hr1 hc1
  have HB := Aside0.mk (Below.refl w.heap.size w)
  have H : ((laws_szIntSS.f k l1 1048576).bind fun t182 => (if t182 < 0 then (some true) else ((laws_toIntSS.f k l1).bind fun t183 => ((spec_GreatestTold.f k a0 t183).bind fun bt186 => ((laws_toIntSS.f k l1).bind fun t188 => ((impl_GreatestTold.f k a0 t188).bind fun bt191 => (if bt191.1 = bt186.1 then (laws_FnExactGreatestTold.j0 k l1 t188 (bt191.2 != bt186.2)) else (laws_FnExactGreatestTold.j0 k l1 t188 true)))))))) = some r := h
  clear h
  replace H := Option.bind_eq_some_iff.mp H
  obtain ⟨t182, A30, H⟩ := H
  replace H : (if t182 < 0 then (some true) else ((laws_toIntSS.f k l1).bind fun t183 => ((spec_GreatestTold.f k a0 t183).bind fun bt186 => ((laws_toIntSS.f k l1).bind fun t188 => ((impl_GreatestTold.f k a0 t188).bind fun bt191 => (if bt191.1 = bt186.1 then (laws_FnExactGreatestTold.j0 k l1 t188 (bt191.2 != bt186.2)) else (laws_FnExactGreatestTold.j0 k l1 t188 true))))))) = some r := H
  have A3 := Aside0.mk A30
  clear A30
  by_cases c4 : t182 < 0
  · rw [if_pos c4] at H
    have c4b0 : decide (t182 < 0) = true := decide_eq_true c4
    clear c4
    obtain rfl := Option.some.inj H
    go_enter Try.func4, Try.ntmps4
    go_wp2_with (first | ((with_reducible refine gate_callee (f := 9) rfl ?_); refine goesL_ (some 13) rfl rfl Try.func9 (by kernel_rfl) rfl #[.slice A1 l1.length c1, .int .i64 1048576] rfl (by (try simp only [List.map_toArray, List.map_cons, List.map_nil]); first | done | rfl | (simp only [List.length_drop, List.length_take]; rfl) | (simp; done) | (refine congrArg Value.bool ?_; simp; done) | (refine congrArg (fun z_ => #[Value.bool z_]) ?_; simp; done)) ?_; (with_reducible refine (laws_szIntSS.calls k _ _ l1 1048576 t182 _ ?side1 ?side2 A3.out).mono ?_); (case side1 => repeat (first | exact HR1.out | (with_reducible refine Kd.C_alloc ?_ _) | (with_reducible refine Kd.C_drewN ?_ _) | (with_reducible refine Kd.C_drew ?_))); (case side2 => exact HC1.out); rintro e w' ⟨rfl, ⟨nd, rfl⟩⟩; refine ⟨_, rfl, ?_⟩))
    go_ret
    exact ⟨by first | rfl | (simp [errW_none, errW_some] <;> rfl) | (simp [*, errW_none, errW_some] <;> rfl), by repeat (first | (with_reducible first | exact HB.out | apply below_alloc | apply pw_below_drewN | apply below_drew1) | exact HB.out)⟩
  · rw [if_neg c4] at H
    have c4b0 : decide (t182 < 0) = false := decide_eq_false c4
    clear c4
    replace H := Option.bind_eq_some_iff.mp H
    obtain ⟨t183, A50, H⟩ := H
    replace H : ((spec_GreatestTold.f k a0 t183).bind fun bt186 => ((laws_toIntSS.f k l1).bind fun t188 => ((impl_GreatestTold.f k a0 t188).bind fun bt191 => (if bt191.1 = bt186.1 then (laws_FnExactGreatestTold.j0 k l1 t188 (bt191.2 != bt186.2)) else (laws_FnExactGreatestTold.j0 k l1 t188 true))))) = some r := H
    have A5 := Aside0.mk A50
    clear A50
    replace H := Option.bind_eq_some_iff.mp H
    obtain ⟨⟨t186, t187⟩, A60, H⟩ := H
    replace H : ((laws_toIntSS.f k l1).bind fun t188 => ((impl_GreatestTold.f k a0 t188).bind fun bt191 => (if bt191.1 = t186 then (laws_FnExactGreatestTold.j0 k l1 t188 (bt191.2 != t187)) else (laws_FnExactGreatestTold.j0 k l1 t188 true)))) = some r := H
    have A6 := Aside0.mk A60
    clear A60
    replace H := Option.bind_eq_some_iff.mp H
    obtain ⟨t188, A70, H⟩ := H
    replace H : ((impl_GreatestTold.f k a0 t188).bind fun bt191 => (if bt191.1 = t186 then (laws_FnExactGreatestTold.j0 k l1 t188 (bt191.2 != t187)) else (laws_FnExactGreatestTold.j0 k l1 t188 true))) = some r := H
    have A7 := Aside0.mk A70
    clear A70
    replace H := Option.bind_eq_some_iff.mp H
    obtain ⟨⟨t191, t192⟩, A80, H⟩ := H
    replace H : (if t191 = t186 then (laws_FnExactGreatestTold.j0 k l1 t188 (t192 != t187)) else (laws_FnExactGreatestTold.j0 k l1 t188 true)) = some r := H
    have A8 := Aside0.mk A80
    clear A80
    have HC9 := Aside0.mk H
    clear H
    go_enter Try.func4, Try.ntmps4
    go_upto_region 8 with (first | ((with_reducible refine gate_callee (f := 9) rfl ?_); refine goesL_ (some 13) rfl rfl Try.func9 (by kernel_rfl) rfl #[.slice A1 l1.length c1, .int .i64 1048576] rfl (by (try simp only [List.map_toArray, List.map_cons, List.map_nil]); first | done | rfl | (simp only [List.length_drop, List.length_take]; rfl) | (simp; done) | (refine congrArg Value.bool ?_; simp; done) | (refine congrArg (fun z_ => #[Value.bool z_]) ?_; simp; done)) ?_; (with_reducible refine (laws_szIntSS.calls k _ _ l1 1048576 t182 _ ?side1 ?side2 A3.out).mono ?_); (case side1 => repeat (first | exact HR1.out | (with_reducible refine Kd.C_alloc ?_ _) | (with_reducible refine Kd.C_drewN ?_ _) | (with_reducible refine Kd.C_drew ?_))); (case side2 => exact HC1.out); rintro e w' ⟨rfl, ⟨nd, rfl⟩⟩; refine ⟨_, rfl, ?_⟩) | ((with_reducible refine gate_callee (f := 11) rfl ?_); refine goesL_ (some 19) rfl rfl Try.func11 (by kernel_rfl) rfl #[.slice A1 l1.length c1] rfl (by (try simp only [List.map_toArray, List.map_cons, List.map_nil]); first | done | rfl | (simp only [List.length_drop, List.length_take]; rfl) | (simp; done) | (refine congrArg Value.bool ?_; simp; done) | (refine congrArg (fun z_ => #[Value.bool z_]) ?_; simp; done)) ?_; (with_reducible refine (laws_toIntSS.calls k _ _ l1 t183 _ ?side1 ?side2 A5.out).mono ?_); (case side1 => repeat (first | exact HR1.out | (with_reducible refine Kd.C_alloc ?_ _) | (with_reducible refine Kd.C_drewN ?_ _) | (with_reducible refine Kd.C_drew ?_))); (case side2 => exact HC1.out); rintro e w10 ⟨v184, rfl, ho0, hb⟩; refine ⟨_, rfl, ?_⟩; have n0_ := Aside0.mk (Kd.S_lower ho0 (below_size (by repeat (first | (with_reducible first | exact HB.out | apply below_alloc | apply pw_below_drewN | apply below_drew1) | exact HB.out)))); have n1_ := Aside0.mk (below_step (by repeat (first | (with_reducible first | exact HB.out | apply below_alloc | apply pw_below_drewN | apply below_drew1) | exact HB.out)) hb); clear HB; have HO185 := n0_; have HB := n1_; clear n0_ n1_; (try clear hb); (try clear hb2); (try clear hk); (try clear hi); (try clear ho0); obtain ⟨Ao11, co11, eo11⟩ := Kd.S_slice HO185.out; subst eo11) | ((with_reducible refine gate_callee (f := 14) rfl ?_); refine goesL_ (some 20) rfl rfl Try.func14 (by kernel_rfl) rfl #[.int .i64 a0, .slice Ao11 t183.length co11] rfl (by (try simp only [List.map_toArray, List.map_cons, List.map_nil]); first | done | rfl | (simp only [List.length_drop, List.length_take]; rfl) | (simp; done) | (refine congrArg Value.bool ?_; simp; done) | (refine congrArg (fun z_ => #[Value.bool z_]) ?_; simp; done)) ?_; (with_reducible refine (spec_GreatestTold.calls k a0 _ _ t183 t186 t187 _ ?side1 ?side2 A6.out).mono ?_); (case side1 => repeat (first | exact (Kd.S_reads' HO185.out).2.2 | (with_reducible refine Kd.C_alloc ?_ _) | (with_reducible refine Kd.C_drewN ?_ _) | (with_reducible refine Kd.C_drew ?_))); (case side2 => exact (Kd.S_reads' HO185.out).2.1); rintro e w12 ⟨rfl, hb⟩; refine ⟨_, rfl, ?_⟩; have n0_ := Aside0.mk (Kd.S_below (by (with_reducible repeat (first | apply Kd.S_alloc | apply Kd.S_drewN | apply Kd.S_drew)); exact HO185.out) hb); have n1_ := Aside0.mk (below_step (by repeat (first | (with_reducible first | exact HB.out | apply below_alloc | apply pw_below_drewN | apply below_drew1) | exact HB.out)) hb); clear HO185; clear HB; have HO185 := n0_; have HB := n1_; clear n0_ n1_; (try clear hb); (try clear hb2); (try clear hk); (try clear hi)) | ((with_reducible refine gate_callee (f := 11) rfl ?_); refine goesL_ (some 24) rfl rfl Try.func11 (by kernel_rfl) rfl #[.slice A1 l1.length c1] rfl (by (try simp only [List.map_toArray, List.map_cons, List.map_nil]); first | done | rfl | (simp only [List.length_drop, List.length_take]; rfl) | (simp; done) | (refine congrArg Value.bool ?_; simp; done) | (refine congrArg (fun z_ => #[Value.bool z_]) ?_; simp; done)) ?_; (with_reducible refine (laws_toIntSS.calls k _ _ l1 t188 _ ?side1 ?side2 A7.out).mono ?_); (case side1 => repeat (first | exact (Kd.C_below HR1.out HB.out) | (with_reducible refine Kd.C_alloc ?_ _) | (with_reducible refine Kd.C_drewN ?_ _) | (with_reducible refine Kd.C_drew ?_))); (case side2 => exact HC1.out); rintro e w13 ⟨v189, rfl, ho0, hb⟩; refine ⟨_, rfl, ?_⟩; have n0_ := Aside0.mk (Kd.S_elder' (by (with_reducible repeat (first | apply Kd.S_alloc | apply Kd.S_drewN | apply Kd.S_drew)); exact HO185.out) (Kd.S_base ho0) hb); have n1_ := Aside0.mk (Kd.S_lower (Kd.S_new' ho0 (Kd.S_lt (by (with_reducible repeat (first | apply Kd.S_alloc | apply Kd.S_drewN | apply Kd.S_drew)); exact HO185.out))) (below_size (by repeat (first | (with_reducible first | exact HB.out | apply below_alloc | apply pw_below_drewN | apply below_drew1) | exact HB.out)))); have n2_ := Aside0.mk (below_step (by repeat (first | (with_reducible first | exact HB.out | apply below_alloc | apply pw_below_drewN | apply below_drew1) | exact HB.out)) hb); clear HO185; clear HB; have HO185 := n0_; have HO190 := n1_; have HB := n2_; clear n0_ n1_ n2_; (try clear hb); (try clear hb2); (try clear hk); (try clear hi); (try clear ho0); obtain ⟨Ao14, co14, eo14⟩ := Kd.S_slice HO190.out; subst eo14) | ((with_reducible refine gate_callee (f := 15) rfl ?_); refine goesL_ (some 28) rfl rfl Try.func15 (by kernel_rfl) rfl #[.int .i64 a0, .slice Ao14 t188.length co14] rfl (by (try simp only [List.map_toArray, List.map_cons, List.map_nil]); first | done | rfl | (simp only [List.length_drop, List.length_take]; rfl) | (simp; done) | (refine congrArg Value.bool ?_; simp; done) | (refine congrArg (fun z_ => #[Value.bool z_]) ?_; simp; done)) ?_; (with_reducible refine (impl_GreatestTold.calls k a0 _ _ t188 t191 t192 _ ?side1 ?side2 A8.out).mono ?_); (case side1 => repeat (first | exact (Kd.S_reads' HO190.out).2.2 | (with_reducible refine Kd.C_alloc ?_ _) | (with_reducible refine Kd.C_drewN ?_ _) | (with_reducible refine Kd.C_drew ?_))); (case side2 => exact (Kd.S_reads' HO190.out).2.1); rintro e w15 ⟨rfl, hb⟩; refine ⟨_, rfl, ?_⟩; have n0_ := Aside0.mk (Kd.S_below (by (with_reducible repeat (first | apply Kd.S_alloc | apply Kd.S_drewN | apply Kd.S_drew)); exact HO185.out) hb); have n1_ := Aside0.mk (Kd.S_below (by (with_reducible repeat (first | apply Kd.S_alloc | apply Kd.S_drewN | apply Kd.S_drew)); exact HO190.out) hb); have n2_ := Aside0.mk (below_step (by repeat (first | (with_reducible first | exact HB.out | apply below_alloc | apply pw_below_drewN | apply below_drew1) | exact HB.out)) hb); clear HO185; clear HO190; clear HB; have HO185 := n0_; have HO190 := n1_; have HB := n2_; clear n0_ n1_ n2_; (try clear hb); (try clear hb2); (try clear hk); (try clear hi)))
    (try simp only [Act.put, List.setIfInBounds_toArray, List.set_cons_zero, List.set_cons_succ])
    go_cut [38] (fun v38 wc => ∃ (kq : Nat) (x38_8 : Bool), v38 = .bool x38_8 ∧ Aside0 (laws_FnExactGreatestTold.j0 kq l1 t188 x38_8 = some r) ∧ Aside0 (kq ≤ k) ∧ Aside0 (Kd.S (Kd.slice 3 (Kd.int .i64)) 32 wc w.heap.size (fun _ => True) (.slice Ao14 t188.length co14) t188) ∧ Aside0 (Below w.heap.size w wc))
    case first =>
      have H := HC9.out
      clear HC9
      by_cases c16 : t191 = t186
      · rw [if_pos c16] at H
        have c16b0 : (t191 == t186) = true := beq_iff_eq.mpr c16
        have c16b1 : (t191 != t186) = false := bne_eq_false_iff_eq.mpr c16
        clear c16
        (first | rw [c16b0] | (simp only [i64_w, i32_w]; rw [c16b0]) |rw [c16b1] | rw [c16b2] | skip)
        have H' := Aside0.mk H
        clear H
        go_wp2
        go_meet
        case rel => exact ⟨_, ((t192 != t187)), (by first | rfl | (simp; done) | (simp [*]; done)), H', ⟨by first | omega | exact Nat.le_refl _⟩, ⟨by (with_reducible repeat (first | apply Kd.S_alloc | apply Kd.S_drewN | apply Kd.S_drew)); exact Kd.S_mono HO190.out (fun _ hk => trivial)⟩, ⟨by repeat (first | (with_reducible first | exact HB.out | apply below_alloc | apply pw_below_drewN | apply below_drew1) | exact HB.out)⟩⟩
      · rw [if_neg c16] at H
        have c16b0 : (t191 == t186) = false := beq_eq_false_iff_ne.mpr c16
        have c16b1 : (t191 != t186) = true := bne_iff_ne.mpr c16
        (first | rw [c16b0] | (simp only [i64_w, i32_w]; rw [c16b0]) |rw [c16b1] | rw [c16b2] | skip)
        have H' := Aside0.mk H
        clear H
        go_wp2
        go_meet
        case rel => exact ⟨_, (true), (by first | rfl | (simp; done) | (simp [*]; done)), H', ⟨by first | omega | exact Nat.le_refl _⟩, ⟨by (with_reducible repeat (first | apply Kd.S_alloc | apply Kd.S_drewN | apply Kd.S_drew)); exact Kd.S_mono HO190.out (fun _ hk => trivial)⟩, ⟨by repeat (first | (with_reducible first | exact HB.out | apply below_alloc | apply pw_below_drewN | apply below_drew1) | exact HB.out)⟩⟩
    case rest =>
      clear HC9
      try clear c1
      try clear p2
      try clear c4
      try clear c4b0
      try clear c9
      try clear c11
      try clear c14
      try clear c15
      try clear c16
      try clear c16b0
      try clear c16b1
      obtain ⟨kq, x38_8, rfl, HA, HJ8, HO_8, HB⟩ := hcut
      cases kq with
      | zero => exact absurd HA.out (by simp [laws_FnExactGreatestTold.j0])
      | succ kj8 =>
        have H := HA.out
        clear HA
        simp only [laws_FnExactGreatestTold.j0] at H
        by_cases c17 : x38_8 = true
        · subst c17
          have H1 : (some false) = some r := by rw [if_pos rfl] at H; exact H
          clear H
          have H := H1
          clear H1
          obtain rfl := Option.some.inj H
          go_wp2
          go_ret
          exact ⟨by first | rfl | (simp [errW_none, errW_some] <;> rfl) | (simp [*, errW_none, errW_some] <;> rfl), by repeat (first | (with_reducible first | exact HB.out | apply below_alloc | apply pw_below_drewN | apply below_drew1) | exact HB.out)⟩
        · replace c17 := Bool.eq_false_iff.mpr c17
          subst c17
          have H1 : ((laws_toIntSS.f kj8 l1).bind fun t193 => ((laws_eqIntSS.f kj8 t188 t193).bind fun t196 => (if t196 = true then (some true) else (some false)))) = some r := by rw [if_neg (show ¬ (false = true) by decide)] at H; exact H
          clear H
          have H := H1
          clear H1
          replace H := Option.bind_eq_some_iff.mp H
          obtain ⟨t193, A180, H⟩ := H
          replace H : ((laws_eqIntSS.f kj8 t188 t193).bind fun t196 => (if t196 = true then (some true) else (some false))) = some r := H
          have A18 := Aside0.mk A180
          clear A180
          replace H := Option.bind_eq_some_iff.mp H
          obtain ⟨t196, A190, H⟩ := H
          replace H : (if t196 = true then (some true) else (some false)) = some r := H
          have A19 := Aside0.mk A190
          clear A190
          by_cases c20 : t196 = true
          · subst c20
            have H1 : (some true) = some r := by rw [if_pos rfl] at H; exact H
            clear H
            have H := H1
            clear H1
            obtain rfl := Option.some.inj H
            go_wp2_with (first | ((with_reducible refine gate_callee (f := 11) rfl ?_); refine goesL_ (some 41) rfl rfl Try.func11 (by kernel_rfl) rfl #[.slice A1 l1.length c1] rfl (by (try simp only [List.map_toArray, List.map_cons, List.map_nil]); first | done | rfl | (simp only [List.length_drop, List.length_take]; rfl) | (simp; done) | (refine congrArg Value.bool ?_; simp; done) | (refine congrArg (fun z_ => #[Value.bool z_]) ?_; simp; done)) ?_; (with_reducible refine (laws_toIntSS.calls kj8 _ _ l1 t193 _ ?side1 ?side2 A18.out).mono ?_); (case side1 => repeat (first | exact (Kd.C_below HR1.out HB.out) | (with_reducible refine Kd.C_alloc ?_ _) | (with_reducible refine Kd.C_drewN ?_ _) | (with_reducible refine Kd.C_drew ?_))); (case side2 => exact HC1.out); rintro e w21 ⟨v194, rfl, ho0, hb⟩; refine ⟨_, rfl, ?_⟩; have n0_ := Aside0.mk (Kd.S_elder' (by (with_reducible repeat (first | apply Kd.S_alloc | apply Kd.S_drewN | apply Kd.S_drew)); exact HO_8.out) (Kd.S_base ho0) hb); have n1_ := Aside0.mk (Kd.S_lower (Kd.S_new' ho0 (Kd.S_lt (by (with_reducible repeat (first | apply Kd.S_alloc | apply Kd.S_drewN | apply Kd.S_drew)); exact HO_8.out))) (below_size (by repeat (first | (with_reducible first | exact HB.out | apply below_alloc | apply pw_below_drewN | apply below_drew1) | exact HB.out)))); have n2_ := Aside0.mk (below_step (by repeat (first | (with_reducible first | exact HB.out | apply below_alloc | apply pw_below_drewN | apply below_drew1) | exact HB.out)) hb); clear HO_8; clear HB; have HO_8 := n0_; have HO195 := n1_; have HB := n2_; clear n0_ n1_ n2_; (try clear hb); (try clear hb2); (try clear hk); (try clear hi); (try clear ho0); obtain ⟨Ao22, co22, eo22⟩ := Kd.S_slice HO195.out; subst eo22) | ((with_reducible refine gate_callee (f := 13) rfl ?_); refine goesL_ (some 42) rfl rfl Try.func13 (by kernel_rfl) rfl #[.slice Ao14 t188.length co14, .slice Ao22 t193.length co22] rfl (by (try simp only [List.map_toArray, List.map_cons, List.map_nil]); first | done | rfl | (simp only [List.length_drop, List.length_take]; rfl) | (simp; done) | (refine congrArg Value.bool ?_; simp; done) | (refine congrArg (fun z_ => #[Value.bool z_]) ?_; simp; done)) ?_; (with_reducible refine (laws_eqIntSS.calls kj8 _ _ t188 _ _ t193 true _ ?side1 ?side2 ?side3 ?side4 A19.out).mono ?_); (case side1 => repeat (first | exact (Kd.S_reads' HO_8.out).2.2 | (with_reducible refine Kd.C_alloc ?_ _) | (with_reducible refine Kd.C_drewN ?_ _) | (with_reducible refine Kd.C_drew ?_))); (case side2 => exact (Kd.S_reads' HO_8.out).2.1); (case side3 => repeat (first | exact (Kd.S_reads' HO195.out).2.2 | (with_reducible refine Kd.C_alloc ?_ _) | (with_reducible refine Kd.C_drewN ?_ _) | (with_reducible refine Kd.C_drew ?_))); (case side4 => exact (Kd.S_reads' HO195.out).2.1); rintro e w' ⟨rfl, ⟨nd, rfl⟩⟩; refine ⟨_, rfl, ?_⟩))
            go_ret
            exact ⟨by first | rfl | (simp [errW_none, errW_some] <;> rfl) | (simp [*, errW_none, errW_some] <;> rfl), by repeat (first | (with_reducible first | exact HB.out | apply below_alloc | apply pw_below_drewN | apply below_drew1) | exact HB.out)⟩
          · replace c20 := Bool.eq_false_iff.mpr c20
            subst c20
            have H1 : (some false) = some r := by rw [if_neg (show ¬ (false = true) by decide)] at H; exact H
            clear H
            have H := H1
            clear H1
            obtain rfl := Option.some.inj H
            go_wp2_with (first | ((with_reducible refine gate_callee (f := 11) rfl ?_); refine goesL_ (some 41) rfl rfl Try.func11 (by kernel_rfl) rfl #[.slice A1 l1.length c1] rfl (by (try simp only [List.map_toArray, List.map_cons, List.map_nil]); first | done | rfl | (simp only [List.length_drop, List.length_take]; rfl) | (simp; done) | (refine congrArg Value.bool ?_; simp; done) | (refine congrArg (fun z_ => #[Value.bool z_]) ?_; simp; done)) ?_; (with_reducible refine (laws_toIntSS.calls kj8 _ _ l1 t193 _ ?side1 ?side2 A18.out).mono ?_); (case side1 => repeat (first | exact (Kd.C_below HR1.out HB.out) | (with_reducible refine Kd.C_alloc ?_ _) | (with_reducible refine Kd.C_drewN ?_ _) | (with_reducible refine Kd.C_drew ?_))); (case side2 => exact HC1.out); rintro e w23 ⟨v194, rfl, ho0, hb⟩; refine ⟨_, rfl, ?_⟩; have n0_ := Aside0.mk (Kd.S_elder' (by (with_reducible repeat (first | apply Kd.S_alloc | apply Kd.S_drewN | apply Kd.S_drew)); exact HO_8.out) (Kd.S_base ho0) hb); have n1_ := Aside0.mk (Kd.S_lower (Kd.S_new' ho0 (Kd.S_lt (by (with_reducible repeat (first | apply Kd.S_alloc | apply Kd.S_drewN | apply Kd.S_drew)); exact HO_8.out))) (below_size (by repeat (first | (with_reducible first | exact HB.out | apply below_alloc | apply pw_below_drewN | apply below_drew1) | exact HB.out)))); have n2_ := Aside0.mk (below_step (by repeat (first | (with_reducible first | exact HB.out | apply below_alloc | apply pw_below_drewN | apply below_drew1) | exact HB.out)) hb); clear HO_8; clear HB; have HO_8 := n0_; have HO195 := n1_; have HB := n2_; clear n0_ n1_ n2_; (try clear hb); (try clear hb2); (try clear hk); (try clear hi); (try clear ho0); obtain ⟨Ao24, co24, eo24⟩ := Kd.S_slice HO195.out; subst eo24) | ((with_reducible refine gate_callee (f := 13) rfl ?_); refine goesL_ (some 42) rfl rfl Try.func13 (by kernel_rfl) rfl #[.slice Ao14 t188.length co14, .slice Ao24 t193.length co24] rfl (by (try simp only [List.map_toArray, List.map_cons, List.map_nil]); first | done | rfl | (simp only [List.length_drop, List.length_take]; rfl) | (simp; done) | (refine congrArg Value.bool ?_; simp; done) | (refine congrArg (fun z_ => #[Value.bool z_]) ?_; simp; done)) ?_; (with_reducible refine (laws_eqIntSS.calls kj8 _ _ t188 _ _ t193 false _ ?side1 ?side2 ?side3 ?side4 A19.out).mono ?_); (case side1 => repeat (first | exact (Kd.S_reads' HO_8.out).2.2 | (with_reducible refine Kd.C_alloc ?_ _) | (with_reducible refine Kd.C_drewN ?_ _) | (with_reducible refine Kd.C_drew ?_))); (case side2 => exact (Kd.S_reads' HO_8.out).2.1); (case side3 => repeat (first | exact (Kd.S_reads' HO195.out).2.2 | (with_reducible refine Kd.C_alloc ?_ _) | (with_reducible refine Kd.C_drewN ?_ _) | (with_reducible refine Kd.C_drew ?_))); (case side4 => exact (Kd.S_reads' HO195.out).2.1); rintro e w' ⟨rfl, ⟨nd, rfl⟩⟩; refine ⟨_, rfl, ?_⟩))
            go_ret
            exact ⟨by first | rfl | (simp [errW_none, errW_some] <;> rfl) | (simp [*, errW_none, errW_some] <;> rfl), by repeat (first | (with_reducible first | exact HB.out | apply below_alloc | apply pw_below_drewN | apply below_drew1) | exact HB.out)⟩

end Go.Proofs.Ytbmhgmnlkeebcab.PFnExactGreatestTold
