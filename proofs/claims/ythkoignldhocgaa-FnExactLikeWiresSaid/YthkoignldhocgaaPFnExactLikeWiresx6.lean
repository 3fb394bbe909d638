-- Written by a program of this claim, over the kit's print: the functions that a law reaches, their plain forms and the walks.
import Derived.Test.YthkoignldhocgaaPFnExactLikeWiresx0
import Derived.Test.YthkoignldhocgaaPFnExactLikeWiresx1
import Derived.Test.YthkoignldhocgaaPFnExactLikeWiresx2
import Derived.Test.YthkoignldhocgaaPFnExactLikeWiresx3
import Derived.Test.YthkoignldhocgaaPFnExactLikeWiresx4
import Derived.Test.YthkoignldhocgaaPFnExactLikeWiresx5
namespace Go.Proofs.Ythkoignldhocgaa.PFnExactLikeWires
open Go.RowKit Go.Proofs.YthkoignldhocgaaW.PrintWords Go.Proofs.YthkoignldhocgaaW.PrintLast Go.Proofs.YthkoignldhocgaaW.PrintMore
attribute [local go_sem] max2_int min2_int max_two min_two max_three min_three max_four min_four   -- for this text's walks alone
set_option linter.unusedVariables false
set_option linter.unusedSimpArgs false

/-! ### impl_LikeWires: function 27 -/
namespace Aux1
theorem w64 {x : Int} (h0 : -9223372036854775808 ≤ x) (h1 : x ≤ 9223372036854775807) : wrap64 x = x := by unfold wrap64; omega
theorem up64 {i n : Nat} (h : i < n) (hn : n ≤ 4611686018427387904) : wrap64 ((i : Int) + 1) = ((i + 1 : Nat) : Int) := by rw [w64 (by omega) (by omega)]; omega
theorem rd_lt {xs : List Int} {i : Nat} (h : i < xs.length) : rd xs (i : Int) = xs[i] := by unfold rd; simp [List.getD_eq_getElem?_getD, h]
theorem equal_l0 (a b : List Int) (hl : a.length = b.length) (hn : a.length ≤ 4611686018427387904) : ∀ (d i k : Nat), i + d = a.length → d < k → slices_Equal_int_int.l0 k a b (a.length : Int) (i : Int) = some (decide (a.drop i = b.drop i))
  | 0, i, k, hi, hk => by
    obtain ⟨k, rfl⟩ : ∃ q, k = q + 1 := ⟨k - 1, by omega⟩
    simp only [slices_Equal_int_int.l0]
    rw [if_neg (by omega), List.drop_eq_nil_of_le (by omega), List.drop_eq_nil_of_le (by omega)]
    simp
  | d + 1, i, k, hi, hk => by
    obtain ⟨k, rfl⟩ : ∃ q, k = q + 1 := ⟨k - 1, by omega⟩
    have ih := equal_l0 a b hl hn d (i + 1) k (by omega) (by omega)
    have ha : i < a.length := by omega
    have hb : i < b.length := by omega
    simp only [slices_Equal_int_int.l0]
    rw [if_pos (by omega), if_pos (by omega), if_pos (by omega), if_pos (by omega), up64 ha hn, ih, rd_lt ha, rd_lt hb, List.drop_eq_getElem_cons ha, List.drop_eq_getElem_cons hb]
    by_cases e : a[i] = b[i]
    · rw [if_pos e, e]; simp only [List.cons.injEq, true_and]
    · rw [if_neg e]; simp only [List.cons.injEq, e, false_and, decide_false]
theorem equal_f (a b : List Int) (hn : a.length ≤ 4611686018427387904) {k : Nat} (hk : a.length < k) : slices_Equal_int_int.f k a b = some (decide (a = b)) := by
  unfold slices_Equal_int_int.f
  by_cases h : a.length = b.length
  · rw [if_pos (by omega)]
    exact equal_l0 a b h hn a.length 0 k (by omega) hk
  · rw [if_neg (by omega), decide_eq_false (fun e => h (by rw [e]))]
end Aux1
/-- The indices less than n for which p holds. -/
def impl_LikeWires.p_idx (p : Nat → Bool) (n : Nat) : List Int := ((List.range n).filter p).map (fun (j : Nat) => (j : Int))
theorem impl_LikeWires.idx_succ (p : Nat → Bool) (n : Nat) : impl_LikeWires.p_idx p (n + 1) = if p n = true then impl_LikeWires.p_idx p n ++ [(n : Int)] else impl_LikeWires.p_idx p n := by
  unfold impl_LikeWires.p_idx
  rw [List.range_succ, List.filter_append, List.map_append]
  cases h : p n <;> simp [List.filter_cons, h]
theorem impl_LikeWires.idx_le (p : Nat → Bool) (n : Nat) : (impl_LikeWires.p_idx p n).length ≤ n := by
  unfold impl_LikeWires.p_idx
  rw [List.length_map]
  exact Nat.le_trans (List.length_filter_le _ _) (by simp)
/-- The closure: has a wire this label? -/
theorem impl_LikeWires.clos (B1 B2 : Nat) (A1 A2 : Option Addr) (c1 c2 : Nat) (L : List (List Int)) (own : List Int) (x : Nat) (w : World) (hx : x < L.length) (hl : L.length ≤ 1000) (ho : ∀ y ∈ L, y.length ≤ 1000)
    (hB1 : w.heap[B1]? = some (.cells #[.slice A1 L.length c1] 31 (0, 0))) (hB2 : w.heap[B2]? = some (.cells #[.slice A2 own.length c2] 22 (0, 0)))
    (hr1 : Kd.C (Kd.slice 3 (Kd.int .i64)) w A1 L.length L) (hr2 : Kd.C (Kd.int .i64) w A2 own.length own) (hc2 : own.length ≤ c2) :
    Calls Try.prog 43 #[.int .i64 (x : Int), .pointer (some ⟨B1, 0, none⟩), .pointer (some ⟨B2, 0, none⟩)] w fun e w' => e = .returned (.bool (decide (L.getD x [] = own))) ∧ Below w.heap.size w w' := by
  have h1 : w.cell? ⟨B1, 0, none⟩ = some (.slice A1 L.length c1) := (blk_cell hB1 0).trans rfl
  have h2 : w.cell? ⟨B2, 0, none⟩ = some (.slice A2 own.length c2) := (blk_cell hB2 0).trans rfl
  have p0 : 0 ≤ (x : Int) := by omega
  have q0 : (x : Int) < (L.length : Int) := by omega
  obtain ⟨ad, A3, c3, e3, hx3, hl3, hi3⟩ := at_L1 hr1 (x : Int) p0 q0
  have el : rd_L1 L (x : Int) = L.getD x [] := by unfold rd_L1; simp
  have hlen : (L.getD x []).length ≤ 1000 := by rw [List.getD_eq_getElem?_getD, List.getElem?_eq_getElem hx]; exact ho _ (List.getElem_mem hx)
  rw [el] at hx3 hl3 hi3
  generalize L.getD x [] = y at hx3 hl3 hi3 hlen ⊢
  subst e3
  rw [Int.toNat_natCast] at hx3
  have HE := Aside0.mk (Aux1.equal_f y own (by omega) (show y.length < 2000 by omega))
  have HI := Aside0.mk hi3
  have HL := Aside0.mk hl3
  have HR2 := Aside0.mk hr2
  have HC2 := Aside0.mk hc2
  have d0 : decide ((x : Int) < (L.length : Int)) = true := decide_eq_true q0
  have d1 : decide (x < L.length) = true := decide_eq_true hx
  clear hi3 hl3 hr2 hc2 hr1 hB1 hB2 ho el hlen
  go_enter Try.func43, Try.ntmps43
  go_wp2
  repeat (go_quiet ((go_at_call 44; exact Calls.quiet_of ((slices_Equal_int_int.calls 2000 A3 c3 y A2 c2 own _ _ (by repeat (first | exact HI.out | (with_reducible refine Kd.C_drewN ?_ _) | (with_reducible refine Kd.C_drew ?_))) HL.out (by repeat (first | exact HR2.out | (with_reducible refine Kd.C_drewN ?_ _) | (with_reducible refine Kd.C_drew ?_))) HC2.out HE.out).mono (fun _ _ h => ⟨h.1, h.2.out⟩)))); try go_wp2)
  all_goals (go_ret; exact ⟨rfl, pw_below_drewN (Below.refl _ _) _⟩)
set_option maxHeartbeats 1000000 in
theorem impl_LikeWires.indices (g : Nat) (lb : Array Value) (p : Nat → Bool) (n : Nat) (hn : n ≤ 1000) (w : World)
    (eg : ∀ args w, (callFunc g args).run Try.prog w = .ok (.enter g args) w)
    (hp : ∀ (W : World) (x : Nat), Below w.heap.size w W → x < n → Calls Try.prog g (#[.int .i64 (x : Int)] ++ lb) W fun e W' => e = .returned (.bool (p x)) ∧ Below W.heap.size W W') :
    Calls Try.prog 42 #[.int .i64 (n : Int), .func (.func g) #[] lb] w fun e w' => ∃ v0_ : Value, e = .returned v0_ ∧ Kd.R (Kd.int .i64) 3 w' w.heap.size (fun _ => True) v0_ (impl_LikeWires.p_idx p n) ∧ Below w.heap.size w w' := by
  have HP := Aside0.mk hp
  have HN := Aside0.mk hn
  clear hp
  go_enter Try.func42, Try.ntmps42
  go_wp2_with ((with_reducible refine gate_dst (N := 7) rfl ?_); refine Kd.R_lit (Kd.int .i64) _ 3 ?hg (N := 7) ?hd (xs := ([] : List Int)) (inner := []) (ok := fun _ => True) (okp := fun _ => True) ?hr ?hp (fun _ hk => hk) trivial (Below.refl _ _) (Nat.le_refl _) (by simp) ?_; (case hd => rfl); (case hg => rfl); (case hr => first | (go_simp; done) | (go_simp; rfl)); (case hp => exact (Reps.none _ _)); intro v1 w1 ho1 hb1 hg_ hnew_; clear hg_ hnew_; have O1 := Aside0.mk ho1; have B1 := Aside0.mk hb1; clear ho1 hb1)
  go_loopg [5, 9] n (fun gg v5 v9 wr => ∃ x : Nat, v9 = .int .i64 (x : Int) ∧ Aside0 (x ≤ n ∧ n - x ≤ gg) ∧ Aside0 (Below w.heap.size w wr) ∧ Aside0 (Kd.R (Kd.int .i64) 3 wr w.heap.size (fun _ => True) v5 (impl_LikeWires.p_idx p x)))
  case atStart => exact ⟨0, rfl, ⟨by omega, by omega⟩, B1, O1⟩
  case round =>
    clear B1 O1
    obtain ⟨x, rfl, HX, BW, O⟩ := hrel
    by_cases hlt : x < n
    · have hcall := HP.out wr x BW.out hlt
      have HL := Aside0.mk hlt
      have d1 : decide ((x : Int) < (n : Int)) = true := decide_eq_true (by omega)
      have d0 : decide (x < n) = true := decide_eq_true hlt
      have hup : wrap64 ((x : Int) + 1) = ((x + 1 : Nat) : Int) := by have := HN.out; unfold wrap64; omega
      have HU := Aside0.mk hup
      clear hup hlt hn
      cases hq : p x with
      | true =>
        rw [hq] at hcall
        have HQ := Aside0.mk hq
        clear hq
        have hle := impl_LikeWires.idx_le p x
        have HLE := Aside0.mk hle
        clear hle
        go_wp2_with fail
        refine hcall.mono ?_
        rintro e w2 ⟨rfl, hb2⟩
        have n0 := Aside0.mk (Kd.R_below O.out hb2)
        have n1 := Aside0.mk (below_step BW.out hb2)
        clear O BW hb2
        go_wp2_with ((with_reducible refine gate_builtin (b := .append) (xs := #[.tmp 15, .tmp 17]) rfl ?_); at_builtin; refine Kd.R_append (Kd.int .i64) (w0 := w) w.heap.size rfl (.tmp 15) (.tmp 17) 22 3 (.int .i64 0) 8 rfl Try.underlying22 info3 rfl (by decide) (by omega) _ (impl_LikeWires.p_idx p x) (x : Int) [.int .i64 (x : Int)] (fun _ => True) (fun _ => False) rfl rfl ?aP (fun _ hk => hk.elim) ?aF ?aO ?aB ?aS ?aL ?_; (case aP => exact rfl); (case aB => exact n1.out); (case aF => exact (fun _ _ => trivial)); (case aO => exact n0.out); (case aS => exact n1.out.size); (case aL => have := HLE.out; have := HN.out; have := HL.out; omega); intro v3 w3 ho3 hb3 hg_ hat_; clear hg_ hat_; have O := Aside0.mk ho3; have BW := Aside0.mk hb3; clear ho3 hb3 n0 n1)
        go_roundg (n - (x + 1))
        case measure => have := HX.out; have := HL.out; omega
        case rel => exact ⟨x + 1, by rw [HU.out], ⟨by have := HL.out; omega, by omega⟩, BW, ⟨by rw [impl_LikeWires.idx_succ, if_pos HQ.out]; exact O.out⟩⟩
      | false =>
        rw [hq] at hcall
        have HQ := Aside0.mk hq
        clear hq
        go_wp2_with fail
        refine hcall.mono ?_
        rintro e w2 ⟨rfl, hb2⟩
        have n0 := Aside0.mk (Kd.R_below O.out hb2)
        have n1 := Aside0.mk (below_step BW.out hb2)
        clear O BW hb2
        go_wp2
        go_roundg (n - (x + 1))
        case measure => have := HX.out; have := HL.out; omega
        case rel => exact ⟨x + 1, by rw [HU.out], ⟨by have := HL.out; omega, by omega⟩, n1, ⟨by rw [impl_LikeWires.idx_succ, if_neg (by rw [HQ.out]; decide)]; exact n0.out⟩⟩
    · have HL := Aside0.mk hlt
      have d1 : decide ((x : Int) < (n : Int)) = false := decide_eq_false (by omega)
      have d0 : decide (x < n) = false := decide_eq_false hlt
      clear hlt
      go_wp2
      go_ret
      have e : x = n := by have := HX.out; have := HL.out; omega
      subst e
      exact ⟨_, rfl, O.out, BW.out⟩
/-- The wires with i's label. -/
def impl_LikeWires.p_row (L : List (List Int)) (i : Nat) : List Int := impl_LikeWires.p_idx (fun j => decide (L.getD j [] = L.getD i [])) L.length
def impl_LikeWires.p_ok (L : List (List Int)) (i : Nat) : Bool := decide (1 < (impl_LikeWires.p_row L i).length) && decide (rd (impl_LikeWires.p_row L i) 0 = (i : Int))
def impl_LikeWires.p_rows (L : List (List Int)) (m : Nat) : List (List Int) := ((List.range m).filter (impl_LikeWires.p_ok L)).map (impl_LikeWires.p_row L)
theorem impl_LikeWires.rows_succ (L : List (List Int)) (n : Nat) : impl_LikeWires.p_rows L (n + 1) = if impl_LikeWires.p_ok L n = true then impl_LikeWires.p_rows L n ++ [impl_LikeWires.p_row L n] else impl_LikeWires.p_rows L n := by
  unfold impl_LikeWires.p_rows
  rw [List.range_succ, List.filter_append, List.map_append]
  cases h : impl_LikeWires.p_ok L n <;> simp [List.filter_cons, h]
theorem impl_LikeWires.rows_le (L : List (List Int)) (n : Nat) : (impl_LikeWires.p_rows L n).length ≤ n := by
  unfold impl_LikeWires.p_rows
  rw [List.length_map]
  exact Nat.le_trans (List.length_filter_le _ _) (by simp)
def impl_LikeWires.f (k : Nat) (l0 l1 : List Int) : Option (List (List Int) × Bool) := (impl_areBoth.f k l0 l1).bind fun t => if t = true then (impl_labels.f k l0 l1).bind fun L => if L.length ≤ 1000 ∧ (∀ x ∈ L, x.length ≤ 1000) then some (impl_LikeWires.p_rows L L.length, true) else none else some ([], false)
theorem impl_LikeWires.mono : ∀ a0 a1 k, LeO (impl_LikeWires.f k a0 a1) (impl_LikeWires.f (k + 1) a0 a1) := fun a0 a1 k => LeO.bind (impl_areBoth.mono _ _ _) (fun _ => LeO.ite (LeO.bind (impl_labels.mono _ _ _) (fun _ => LeO.refl _)) (LeO.refl _))
theorem impl_LikeWires.zi31 : (Try.prog.info? 31).map (fun i => (i.zero, i.size)) = some (some (.slice none 0 0), 1) := by kernel_rfl
theorem impl_LikeWires.zi22 : (Try.prog.info? 22).map (fun i => (i.zero, i.size)) = some (some (.slice none 0 0), 1) := by kernel_rfl
set_option maxHeartbeats 2000000 in
set_option maxRecDepth 100000 in
theorem impl_LikeWires.calls (k : Nat) (A0 : Option Addr) (c0 : Nat) (l0 : List Int) (A1 : Option Addr) (c1 : Nat) (l1 : List Int) (r1 : List (List Int)) (r2 : Bool) (w : World) (hr0 : Kd.C (Kd.int .i64) w A0 l0.length l0) (hc0 : l0.length ≤ c0) (hr1 : Kd.C (Kd.int .i64) w A1 l1.length l1) (hc1 : l1.length ≤ c1) (h : impl_LikeWires.f k l0 l1 = some (r1, r2)) :
    Calls Try.prog 27 #[.slice A0 l0.length c0, .slice A1 l1.length c1] w fun e w' => ∃ v0_ : Value, e = .returned (.tuple #[v0_, .bool r2]) ∧ Kd.S (Kd.slice 3 (Kd.int .i64)) 22 w' w.heap.size (fun _ => True) v0_ r1 ∧ Below w.heap.size w w' := by
  have HR0 := Aside0.mk hr0
  have HC0 := Aside0.mk hc0
  have HR1 := Aside0.mk hr1
  have HC1 := Aside0.mk hc1
  clear hr0 hc0 hr1 hc1
  unfold impl_LikeWires.f at h
  replace h := Option.bind_eq_some_iff.mp h
  obtain ⟨t, ht, h⟩ := h
  have HT := Aside0.mk ht
  clear ht
  cases t with
  | false =>
    rw [if_neg (by decide)] at h
    obtain ⟨rfl, rfl⟩ := Prod.mk.inj (Option.some.inj h)
    clear h
    go_enter Try.func27, Try.ntmps27
    go_wp2_with fail
    refine (impl_areBoth.calls k A0 c0 l0 A1 c1 l1 false w HR0.out HC0.out HR1.out HC1.out HT.out).mono ?_
    rintro e w1 ⟨rfl, hb⟩
    go_wp2
    go_ret2
    exact ⟨_, rfl, Kd.S_nil _ _ _ _ _, hb⟩
  | true =>
    rw [if_pos rfl] at h
    replace h := Option.bind_eq_some_iff.mp h
    obtain ⟨L, hL, h⟩ := h
    by_cases hg : L.length ≤ 1000 ∧ (∀ x ∈ L, x.length ≤ 1000)
    case neg => rw [if_neg hg] at h; cases h
    rw [if_pos hg] at h
    obtain ⟨rfl, rfl⟩ := Prod.mk.inj (Option.some.inj h)
    have HL := Aside0.mk hL
    have HG := Aside0.mk hg
    clear h hL hg
    have eg : ∀ args w, (callFunc 43 args).run Try.prog w = .ok (.enter 43 args) w := Go.Proofs.enters_of Try.func43 (by kernel_rfl) rfl
    have EG := Aside0.mk eg
    clear eg
    have hz1 : ∀ W : World, (zeroValue 31).run Try.prog W = .ok (.slice none 0 0) W := (zero_of_info impl_LikeWires.zi31).1
    have hz2 : ∀ W : World, (zeroValue 22).run Try.prog W = .ok (.slice none 0 0) W := (zero_of_info impl_LikeWires.zi22).1
    go_enter Try.func27, Try.ntmps27
    go_wp2_with fail
    refine (impl_areBoth.calls k A0 c0 l0 A1 c1 l1 true w HR0.out HC0.out HR1.out HC1.out HT.out).mono ?_
    rintro e w1 ⟨rfl, hb⟩
    have B1 := Aside0.mk hb
    clear hb
    go_wp2_with fail
    refine (impl_labels.calls k A0 c0 l0 A1 c1 l1 L w1 (Kd.C_below HR0.out B1.out) HC0.out (Kd.C_below HR1.out B1.out) HC1.out HL.out).mono ?_
    rintro e w2 ⟨v2, rfl, hv, hb⟩
    obtain ⟨AL, cL, rfl⟩ := Kd.S_slice hv
    have OL := Aside0.mk (Kd.S_mono (ok' := fun k => k < w2.heap.size) (Kd.S_bound (Kd.S_lower hv B1.out.size)) (fun _ hk => hk.2.2.1))
    have B2 := Aside0.mk (below_step B1.out hb)
    clear hv hb B1 HR0 HC0 HR1 HC1 HT HL
    go_wp2_with ((with_reducible refine gate_dst (N := 18) rfl ?_); refine Kd.S_lit (Kd.slice 3 (Kd.int .i64)) _ 22 ?hg (N := 18) ?hd (xs := ([] : List (List Int))) (inner := []) (ok := fun k => w2.heap.size ≤ k) (okp := fun k => w2.heap.size ≤ k) ?hr ?hp (fun _ hk => hk) (Nat.le_refl _) (Below.refl _ _) (Nat.le_refl _) (by simp) ?_; (case hd => rfl); (case hg => rfl); (case hr => first | (go_simp; done) | (go_simp; rfl)); (case hp => exact (Reps.none _ _)); intro v3 w3 ho3 hb3 hg_ hnew_; clear hg_ hnew_; have O3 := Aside0.mk (Kd.S_lower ho3 B2.out.size); have B3 := Aside0.mk hb3; clear ho3 hb3)
    clear hz1
    have S4 : Aside0 (w3.heap.size < (w3.alloc (.cells #[.slice AL L.length cL] 31)).heap.size) := ⟨by simp⟩
    have V4 : Aside0 ((w3.alloc (.cells #[.slice AL L.length cL] 31)).heap[w3.heap.size]? = some (.cells #[.slice AL L.length cL] 31 (0, 0))) := ⟨heap_alloc_new _ _⟩
    have L4 := Aside0.mk (Kd.S_alloc (Kd.S_below OL.out B3.out) (.cells #[.slice AL L.length cL] 31))
    have O4 := Aside0.mk (Kd.S_mono (ok' := fun k => w2.heap.size ≤ k ∧ k ≠ w3.heap.size) (Kd.S_alloc (Kd.S_bound O3.out) (.cells #[.slice AL L.length cL] 31)) (fun k hk => ⟨hk.1, Nat.ne_of_lt hk.2.2.1⟩))
    have B4 := Aside0.mk (below_alloc (below_step B2.out B3.out) (.cells #[.slice AL L.length cL] 31))
    have M3 := Aside0.mk B3.out.size
    clear OL O3
    generalize w3.alloc (.cells #[.slice AL L.length cL] 31) = w4 at S4 V4 L4 O4 B4 ⊢
    go_loopg [7, 21] L.length (fun gg v7 v21 wr => ∃ x : Nat, v21 = .int .i64 (x : Int) ∧ Aside0 (x ≤ L.length ∧ L.length - x ≤ gg) ∧ Aside0 (w3.heap.size < wr.heap.size) ∧ Aside0 (wr.heap[w3.heap.size]? = some (.cells #[.slice AL L.length cL] 31 (0, 0))) ∧ Aside0 (Kd.S (Kd.slice 3 (Kd.int .i64)) 22 wr w.heap.size (fun k => k < w2.heap.size) (.slice AL L.length cL) L) ∧ Aside0 (Kd.S (Kd.slice 3 (Kd.int .i64)) 22 wr w.heap.size (fun k => w2.heap.size ≤ k ∧ k ≠ w3.heap.size) v7 (impl_LikeWires.p_rows L x)) ∧ Aside0 (Below w.heap.size w wr))
    case atStart => exact ⟨0, rfl, ⟨by omega, by omega⟩, S4, V4, L4, O4, B4⟩
    case round =>
      clear S4 V4 L4 O4 B4
      obtain ⟨x, rfl, HX, HS, HV, OL, O, BW⟩ := hrel
      by_cases hlt : x < L.length
      · have p0 : 0 ≤ (x : Int) := by omega
        have q0 : (x : Int) < (L.length : Int) := by omega
        obtain ⟨ad, A3, c3, e3, hx3, hl3, hi3⟩ := at_L1 (Kd.S_reads' OL.out).2.2 (x : Int) p0 q0
        have el : rd_L1 L (x : Int) = L.getD x [] := by unfold rd_L1; simp
        rw [el] at hx3 hl3 hi3
        have HROW : Aside0 (impl_LikeWires.p_row L x = impl_LikeWires.p_idx (fun j => decide (L.getD j [] = L.getD x [])) L.length) := ⟨rfl⟩
        generalize L.getD x [] = own at hx3 hl3 hi3 HROW
        subst e3
        rw [Int.toNat_natCast] at hx3
        have hV := (blk_cell HV.out 0).trans rfl
        have HI := Aside0.mk hi3
        have HLL := Aside0.mk hl3
        have HLT := Aside0.mk hlt
        have d0 : decide ((x : Int) < (L.length : Int)) = true := decide_eq_true q0
        have d1 : decide (x < L.length) = true := decide_eq_true hlt
        have hup : wrap64 ((x : Int) + 1) = ((x + 1 : Nat) : Int) := by have := HG.out.1; unfold wrap64; omega
        have HU := Aside0.mk hup
        have hrl := impl_LikeWires.rows_le L x
        have HRL := Aside0.mk hrl
        clear hup hlt hl3 hi3 el hrl
        have hs1 : w3.heap.size < wr.heap.size := HS.out
        have hne : w3.heap.size ≠ wr.heap.size := Nat.ne_of_lt hs1
        go_wp2_with fail
        refine (impl_LikeWires.indices 43 #[.pointer (some ⟨w3.heap.size, 0, none⟩), .pointer (some ⟨wr.heap.size, 0, none⟩)] (fun j => decide (L.getD j [] = own)) L.length HG.out.1 _ EG.out (fun W' y hb' hy' => ?_)).mono ?_
        · exact impl_LikeWires.clos w3.heap.size wr.heap.size (some ad) A3 cL c3 L own y W' hy' HG.out.1 HG.out.2 (blk_below (blk_alloc HV.out _) hb') (blk_below (heap_alloc_new _ _) hb') (Kd.C_below (Kd.C_alloc (Kd.S_reads' OL.out).2.2 _) hb') (Kd.C_below (Kd.C_alloc HI.out _) hb') HLL.out
        rintro e w5 ⟨v5, rfl, hv, hb⟩
        rw [← HROW.out] at hv
        have HV5 := Aside0.mk (blk_below (blk_alloc HV.out _) hb)
        have OL5 := Aside0.mk (Kd.S_below (Kd.S_alloc OL.out _) hb)
        have O5 := Aside0.mk (Kd.S_old (Kd.S_alloc O.out (.cells #[.slice A3 own.length c3] 22)) hb)
        have BW5 := Aside0.mk (below_step (below_alloc BW.out _) hb)
        have HS5 := Aside0.mk (Nat.lt_of_lt_of_le HS.out (Nat.le_trans (by simp) hb.size))
        have MW := Aside0.mk (show w3.heap.size < (wr.alloc (.cells #[.slice A3 own.length c3] 22)).heap.size by have := HS.out; simp; omega)
        have MB := Aside0.mk (Nat.le_trans BW.out.size (show wr.heap.size ≤ (wr.alloc (.cells #[.slice A3 own.length c3] 22)).heap.size by simp))
        generalize wr.alloc (.cells #[.slice A3 own.length c3] 22) = wa at hv hb HV5 OL5 O5 BW5 MW MB
        have R5 := Aside0.mk (Kd.R_lower (Kd.R_mono (ok' := fun k => wa.heap.size ≤ k) (Kd.R_bound hv) (fun k hk => hk.2.1)) MB.out)
        clear hv hb HV OL O BW HS HI hx3 hV hs1 hne
        obtain ⟨A5, c5, rfl⟩ := Kd.R_slice R5.out
        have hrow := impl_LikeWires.idx_le (fun j => decide (L.getD j [] = L.getD x [])) L.length
        have HRW := Aside0.mk (show (impl_LikeWires.p_row L x).length ≤ 1000 from Nat.le_trans hrow HG.out.1)
        clear hrow
        have HPK : Aside0 (impl_LikeWires.p_ok L x = (decide (1 < (impl_LikeWires.p_row L x).length) && decide (rd (impl_LikeWires.p_row L x) 0 = (x : Int)))) := ⟨rfl⟩
        obtain ⟨row, erow⟩ : ∃ row, row = impl_LikeWires.p_row L x := ⟨_, rfl⟩
        rw [← erow] at HPK HRW R5
        simp only [← erow]
        have EROW := Aside0.mk erow
        clear erow HROW
        by_cases h1 : 1 < row.length
        · have f1 : decide (1 < (row.length : Int)) = true := decide_eq_true (by omega)
          have f2 : decide (1 < row.length) = true := decide_eq_true h1
          have f3 : decide (0 < (row.length : Int)) = true := decide_eq_true (by omega)
          have f4 : 0 < row.length := by omega
          obtain ⟨g5, e5, hx5⟩ := Kd.at_int (Kd.R_reads' R5.out).2.2 0 (by omega) (by omega)
          subst e5
          obtain ⟨g6, rfl⟩ := Kd.R_head R5.out
          have hx6 : w5.cell? ⟨g6, 0, none⟩ = some (.int .i64 (rd row 0)) := by simpa [Addr.add] using hx5
          clear hx5 h1
          have hown : ∀ k, u7.ownBlock = some k → (w2.heap.size ≤ k ∧ k ≠ w3.heap.size) ∧ k < wa.heap.size := (Kd.S_R O5.out).1
          have HOWN := Aside0.mk hown
          clear hown
          generalize rd row 0 = q at hx6 HPK
          by_cases hq : q = (x : Int)
          · have b1 : (q == (x : Int)) = true := beq_iff_eq.mpr hq
            have HQ : Aside0 (impl_LikeWires.p_ok L x = true) := ⟨by rw [HPK.out, f2, decide_eq_true hq]; rfl⟩
            clear hq
            go_wp2_with ((with_reducible refine gate_builtin (b := .append) (xs := #[.tmp 40, .tmp 42]) rfl ?_); at_builtin; refine Kd.S_append (Kd.slice 3 (Kd.int .i64)) (w0 := w) w.heap.size rfl (.tmp 40) (.tmp 42) 31 22 (.slice none 0 0) 24 rfl Try.underlying31 info22 rfl (by decide) (by omega) u7 (impl_LikeWires.p_rows L x) row [.slice (some ⟨g6, 0, none⟩) row.length c5] (fun k => w2.heap.size ≤ k ∧ k ≠ w3.heap.size) (fun k => wa.heap.size ≤ k) rfl rfl ?aP ?aK ?aF ?aO ?aB ?aS ?aL ?_; (case aP => exact Kd.M_row R5.out); (case aK => exact (fun k hk => ⟨⟨Nat.le_trans M3.out (Nat.le_trans (Nat.le_of_lt MW.out) hk), fun e => Nat.lt_irrefl _ (Nat.lt_of_lt_of_le MW.out (e ▸ hk))⟩, fun e => Nat.lt_irrefl _ (Nat.lt_of_lt_of_le (HOWN.out k e.symm).2 hk)⟩)); (case aF => exact (fun k hk => ⟨Nat.le_trans M3.out (Nat.le_trans (Nat.le_of_lt HS5.out) hk), fun e => Nat.lt_irrefl _ (Nat.lt_of_lt_of_le HS5.out (e ▸ hk))⟩)); (case aO => exact Kd.S_mono O5.out (fun k hk => ⟨hk.1, Nat.not_le.2 hk.2⟩)); (case aB => exact BW5.out); (case aS => exact BW5.out.size); (case aL => have := HRL.out; have := HLT.out; have := HG.out.1; omega); intro v6 w6 ho6 hb6 hg6 hat6; have O6 := Aside0.mk ho6; have BW6 := Aside0.mk hb6; have HV6 := Aside0.mk (blk_grown HV5.out hg6 (fun e => (HOWN.out _ e.symm).1.2 rfl)); have OL6 := Aside0.mk (Kd.S_grown OL5.out hg6 (fun k hk e => Nat.lt_irrefl _ (Nat.lt_of_lt_of_le hk (HOWN.out _ e.symm).1.1))); have HS6 := Aside0.mk (Nat.lt_of_lt_of_le HS5.out hg6.size); clear ho6 hb6 hg6 hat6 O5 BW5 HV5 OL5 HS5 R5 hx6)
            go_roundg (L.length - (x + 1))
            case measure => have := HX.out; have := HLT.out; omega
            case rel => exact ⟨x + 1, by rw [HU.out], ⟨by have := HLT.out; omega, by omega⟩, HS6, HV6, OL6, ⟨by rw [impl_LikeWires.rows_succ, if_pos HQ.out, ← EROW.out]; exact O6.out⟩, BW6⟩
          · have b1 : (q == (x : Int)) = false := beq_eq_false_iff_ne.mpr hq
            have HQ : Aside0 (impl_LikeWires.p_ok L x = false) := ⟨by rw [HPK.out, f2, decide_eq_false hq]; rfl⟩
            clear hq
            go_wp2
            go_roundg (L.length - (x + 1))
            case measure => have := HX.out; have := HLT.out; omega
            case rel => exact ⟨x + 1, by rw [HU.out], ⟨by have := HLT.out; omega, by omega⟩, HS5, HV5, OL5, ⟨by rw [impl_LikeWires.rows_succ, if_neg (by rw [HQ.out]; decide)]; exact Kd.S_mono O5.out (fun _ hk => hk.1)⟩, BW5⟩
        · have f1 : decide (1 < (row.length : Int)) = false := decide_eq_false (by omega)
          have f2 : decide (1 < row.length) = false := decide_eq_false h1
          have HQ : Aside0 (impl_LikeWires.p_ok L x = false) := ⟨by rw [HPK.out, f2]; rfl⟩
          clear h1
          go_wp2
          go_roundg (L.length - (x + 1))
          case measure => have := HX.out; have := HLT.out; omega
          case rel => exact ⟨x + 1, by rw [HU.out], ⟨by have := HLT.out; omega, by omega⟩, HS5, HV5, OL5, ⟨by rw [impl_LikeWires.rows_succ, if_neg (by rw [HQ.out]; decide)]; exact Kd.S_mono O5.out (fun _ hk => hk.1)⟩, BW5⟩
      · have HLT := Aside0.mk hlt
        have d1 : decide ((x : Int) < (L.length : Int)) = false := decide_eq_false (by omega)
        have d0 : decide (x < L.length) = false := decide_eq_false hlt
        clear hlt
        go_wp2
        go_ret2
        have e : x = L.length := by have := HX.out; have := HLT.out; omega
        subst e
        exact ⟨_, rfl, Kd.S_mono O.out (fun _ _ => trivial), BW.out⟩


/-! ### laws_FnExactLikeWires: function 8 -/
namespace Aux
theorem w64 {x : Int} (h0 : -9223372036854775808 ≤ x) (h1 : x ≤ 9223372036854775807) : wrap64 x = x := by unfold wrap64; omega
theorem up64 {i n : Nat} (h : i < n) (hn : n ≤ 4611686018427387904) : wrap64 ((i : Int) + 1) = ((i + 1 : Nat) : Int) := by rw [w64 (by omega) (by omega)]; omega
theorem rd_lt {xs : List Int} {i : Nat} (h : i < xs.length) : rd xs (i : Int) = xs[i] := by unfold rd; simp [List.getD_eq_getElem?_getD, h]

theorem toIntS_l0 (a : List Int) (hn : a.length ≤ 4611686018427387904) : ∀ (d i k : Nat), i + d = a.length → d < k → laws_toIntS.l0 k a (a.take i ++ List.replicate d 0) (i : Int) = some a
  | 0, i, k, hi, hk => by
    obtain ⟨k, rfl⟩ : ∃ q, k = q + 1 := ⟨k - 1, by omega⟩
    simp only [laws_toIntS.l0]
    rw [if_neg (by omega), List.take_of_length_le (by omega)]
    simp
  | d + 1, i, k, hi, hk => by
    obtain ⟨k, rfl⟩ : ∃ q, k = q + 1 := ⟨k - 1, by omega⟩
    have ih := toIntS_l0 a hn d (i + 1) k (by omega) (by omega)
    have ha : i < a.length := by omega
    simp only [laws_toIntS.l0]
    rw [if_pos (by omega), if_pos (by omega), if_pos (by simp; omega), up64 ha hn, rd_lt ha]
    have he : (a.take i ++ List.replicate (d + 1) (0 : Int)).set ((i : Nat) : Int).toNat a[i] = a.take (i + 1) ++ List.replicate d 0 := by
      rw [List.set_append_right _ _ (by simp; omega), List.replicate_succ]
      have e : ((i : Nat) : Int).toNat - (a.take i).length = 0 := by simp; omega
      rw [e, List.set_cons_zero, List.take_succ_eq_append_getElem ha]
      simp only [List.append_assoc, List.singleton_append]
    rw [he]
    exact ih
theorem toIntS_f (a : List Int) (hn : a.length ≤ 1048576) {k : Nat} (hk : a.length < k) : laws_toIntS.f k a = some a := by
  unfold laws_toIntS.f
  rw [if_pos (by omega), if_pos (by omega)]
  exact toIntS_l0 a (by omega) a.length 0 k (by omega) hk

theorem eqIntS_l0 (a b : List Int) (hl : a.length = b.length) (hn : a.length ≤ 4611686018427387904) : ∀ (d i k : Nat), i + d = a.length → d < k → laws_eqIntS.l0 k a b (i : Int) = some (decide (a.drop i = b.drop i))
  | 0, i, k, hi, hk => by
    obtain ⟨k, rfl⟩ : ∃ q, k = q + 1 := ⟨k - 1, by omega⟩
    simp only [laws_eqIntS.l0]
    rw [if_neg (by omega), List.drop_eq_nil_of_le (by omega), List.drop_eq_nil_of_le (by omega)]
    simp
  | d + 1, i, k, hi, hk => by
    obtain ⟨k, rfl⟩ : ∃ q, k = q + 1 := ⟨k - 1, by omega⟩
    have ih := eqIntS_l0 a b hl hn d (i + 1) k (by omega) (by omega)
    have ha : i < a.length := by omega
    have hb : i < b.length := by omega
    simp only [laws_eqIntS.l0]
    rw [if_pos (by omega), if_pos (by omega), if_pos (by omega), up64 ha hn, ih, rd_lt ha, rd_lt hb, List.drop_eq_getElem_cons ha, List.drop_eq_getElem_cons hb]
    by_cases e : a[i] = b[i]
    · rw [if_pos e, e]; simp only [List.cons.injEq, true_and]
    · rw [if_neg e]; simp only [List.cons.injEq, e, false_and, decide_false]
theorem eqIntS_f (a b : List Int) (hn : a.length ≤ 4611686018427387904) {k : Nat} (hk : a.length < k) : laws_eqIntS.f k a b = some (decide (a = b)) := by
  unfold laws_eqIntS.f
  by_cases h : a.length = b.length
  · rw [if_pos (by omega)]
    exact eqIntS_l0 a b h hn a.length 0 k (by omega) hk
  · rw [if_neg (by omega), decide_eq_false (fun e => h (by rw [e]))]

/-- The numbers a, a + 1, .. -/
def mk (a : Int) (n : Nat) : List Int := (List.range n).map (fun (j : Nat) => a + (j : Int))
theorem mk_len (a : Int) (n : Nat) : (mk a n).length = n := by simp [mk]
theorem mk_succ (a : Int) (n : Nat) : mk a (n + 1) = mk a n ++ [a + (n : Int)] := by simp [mk, List.range_succ]
theorem mk_rd (a : Int) {n i : Nat} (h : i < n) : rd (mk a n) (i : Int) = a + (i : Int) := by
  rw [rd_lt (by rw [mk_len]; exact h)]
  simp [mk]
theorem markIntS_l0 (l : List Int) (a : Int) (h0 : 0 ≤ a) (h1 : a ≤ 1000000000000) (hn : l.length ≤ 1000000000000) : ∀ (d i k : Nat), i + d = l.length → d < k → laws_markIntS.l0 k (mk a i ++ l.drop i) (a + (i : Int)) (i : Int) = some (a + (l.length : Int), mk a l.length)
  | 0, i, k, hi, hk => by
    obtain ⟨k, rfl⟩ : ∃ q, k = q + 1 := ⟨k - 1, by omega⟩
    have e : i = l.length := by omega
    subst e
    simp only [laws_markIntS.l0]
    rw [if_neg (by rw [List.length_append, mk_len, List.length_drop]; omega), List.drop_eq_nil_of_le (by omega), List.append_nil]
  | d + 1, i, k, hi, hk => by
    obtain ⟨k, rfl⟩ : ∃ q, k = q + 1 := ⟨k - 1, by omega⟩
    have ha : i < l.length := by omega
    have ih := markIntS_l0 l a h0 h1 hn d (i + 1) k (by omega) (by omega)
    simp only [laws_markIntS.l0]
    rw [if_pos (by rw [List.length_append, mk_len, List.length_drop]; omega), if_pos (by omega), up64 ha (by omega), w64 (x := a + (i : Int) + 1) (by omega) (by omega)]
    have he : (mk a i ++ l.drop i).set ((i : Nat) : Int).toNat (a + (i : Int)) = mk a (i + 1) ++ l.drop (i + 1) := by
      rw [List.set_append_right _ _ (by rw [mk_len]; omega), mk_len, mk_succ, List.drop_eq_getElem_cons ha]
      have e : ((i : Nat) : Int).toNat - i = 0 := by omega
      rw [e, List.set_cons_zero]
      simp only [List.append_assoc, List.singleton_append]
    rw [he, show a + (i : Int) + 1 = a + ((i + 1 : Nat) : Int) by omega]
    exact ih
theorem markIntS_f (l : List Int) (a : Int) (h0 : 0 ≤ a) (h1 : a ≤ 1000000000000) (hn : l.length ≤ 1000000000000) {k : Nat} (hk : l.length < k) : laws_markIntS.f k l a = some (a + (l.length : Int), mk a l.length) := by
  have h := markIntS_l0 l a h0 h1 hn l.length 0 k (by omega) hk
  unfold laws_markIntS.f
  simpa [mk] using h
theorem heldIntS_l0 (n : Nat) (a : Int) (h0 : 0 ≤ a) (h1 : a ≤ 1000000000000) (hn : n ≤ 1000000000000) : ∀ (d i k : Nat), i + d = n → d < k → laws_heldIntS.l0 k (mk a n) (a + (i : Int)) (i : Int) = some (a + (n : Int))
  | 0, i, k, hi, hk => by
    obtain ⟨k, rfl⟩ : ∃ q, k = q + 1 := ⟨k - 1, by omega⟩
    have e : i = n := by omega
    subst e
    simp only [laws_heldIntS.l0]
    rw [if_neg (by rw [mk_len]; omega)]
  | d + 1, i, k, hi, hk => by
    obtain ⟨k, rfl⟩ : ∃ q, k = q + 1 := ⟨k - 1, by omega⟩
    have ha : i < n := by omega
    have ih := heldIntS_l0 n a h0 h1 hn d (i + 1) k (by omega) (by omega)
    simp only [laws_heldIntS.l0]
    rw [if_pos (by rw [mk_len]; omega), if_pos (by omega), mk_rd a ha, if_pos rfl, up64 ha (by omega), w64 (x := a + (i : Int) + 1) (by omega) (by omega), show a + (i : Int) + 1 = a + ((i + 1 : Nat) : Int) by omega]
    exact ih
theorem heldIntS_f (n : Nat) (a : Int) (h0 : 0 ≤ a) (h1 : a ≤ 1000000000000) (hn : n ≤ 1000000000000) {k : Nat} (hk : n < k) : laws_heldIntS.f k (mk a n) a = some (a + (n : Int)) := by
  have h := heldIntS_l0 n a h0 h1 hn n 0 k (by omega) hk
  unfold laws_heldIntS.f
  simpa using h

/-- The length of all rows together. -/
def tot (l : List (List Int)) : Nat := (l.map List.length).sum
theorem tot_cons (x : List Int) (l : List (List Int)) : tot (x :: l) = x.length + tot l := by simp [tot]
theorem tot_append (a b : List (List Int)) : tot (a ++ b) = tot a + tot b := by simp [tot]
theorem tot_drop (l : List (List Int)) (i : Nat) (h : i < l.length) : tot (l.drop i) = (l[i]).length + tot (l.drop (i + 1)) := by
  rw [List.drop_eq_getElem_cons h, tot_cons]
theorem tot_drop_le (l : List (List Int)) : ∀ i, tot (l.drop i) ≤ tot l := by
  induction l with
  | nil => intro i; simp [tot]
  | cons x l ih =>
    intro i
    cases i with
    | zero => simp
    | succ i => rw [List.drop_succ_cons, tot_cons]; have := ih i; omega
theorem toIntS_ev (l : List Int) (h : l.length ≤ 1048576) : ∃ k, laws_toIntS.f k l = some l := ⟨l.length + 1, toIntS_f l h (by omega)⟩
theorem eqIntS_ev (l : List Int) (h : l.length ≤ 1000000000) : ∃ k, laws_eqIntS.f k l l = some true := ⟨l.length + 1, by rw [eqIntS_f l l (by omega) (by omega)]; simp⟩
theorem markIntS_ev (l : List Int) (a : Int) (h0 : 0 ≤ a) (h1 : a ≤ 1000000000) (h : l.length ≤ 1000000000) : ∃ k m L, a ≤ m ∧ m = a + (l.length : Int) ∧ L.length = l.length ∧ laws_markIntS.f k l a = some (m, L) ∧ laws_heldIntS.f k L a = some m :=
  ⟨l.length + 1, a + (l.length : Int), mk a l.length, by omega, rfl, mk_len _ _, markIntS_f l a h0 (by omega) (by omega) (by omega), heldIntS_f l.length a h0 (by omega) (by omega) (by omega)⟩

theorem eqIntSS_l0 (a : List (List Int)) (hn : a.length ≤ 1000000000) (ht : tot a ≤ 1000000000) : ∀ (d i k : Nat), i + d = a.length → d + 1000000001 < k → laws_eqIntSS.l0 k a a (i : Int) = some true
  | 0, i, k, hi, hk => by
    obtain ⟨k, rfl⟩ : ∃ q, k = q + 1 := ⟨k - 1, by omega⟩
    simp only [laws_eqIntSS.l0]
    rw [if_neg (by omega)]
  | d + 1, i, k, hi, hk => by
    obtain ⟨k, rfl⟩ : ∃ q, k = q + 1 := ⟨k - 1, by omega⟩
    have ih := eqIntSS_l0 a hn ht d (i + 1) k (by omega) (by omega)
    have ha : i < a.length := by omega
    have h1 := tot_drop a i ha
    have h2 := tot_drop_le a i
    have e : rd_L1 a (i : Int) = a[i] := by unfold rd_L1; simp [List.getD_eq_getElem?_getD, ha]
    simp only [laws_eqIntSS.l0]
    rw [if_pos (by omega), if_pos (by omega), if_pos (by omega), e, eqIntS_f _ _ (by omega) (by omega), up64 ha (by omega)]
    simpa using ih
theorem eqIntSS_ev (l : List (List Int)) (hn : l.length ≤ 1000000000) (ht : tot l ≤ 1000000000) : ∃ k, laws_eqIntSS.f k l l = some true := by
  refine ⟨3000000000, ?_⟩
  unfold laws_eqIntSS.f
  rw [if_pos rfl]
  exact eqIntSS_l0 l hn ht l.length 0 _ (by omega) (by omega)
/-- Rows that are numbered one behind the other. -/
def mkS : List (List Int) → Int → List (List Int)
  | [], _ => []
  | x :: l, a => mk a x.length :: mkS l (a + (x.length : Int))
theorem mkS_len (l : List (List Int)) : ∀ a, (mkS l a).length = l.length := by
  induction l with
  | nil => intro a; rfl
  | cons x l ih => intro a; simp [mkS, ih]
theorem mkS_tot (l : List (List Int)) : ∀ a, tot (mkS l a) = tot l := by
  induction l with
  | nil => intro a; rfl
  | cons x l ih => intro a; simp [mkS, ih, tot_cons, mk_len]
theorem markSS_l0 : ∀ (l pre : List (List Int)) (a : Int) (k : Nat), 0 ≤ a → a + (tot l : Int) ≤ 100000000000 → pre.length + l.length ≤ 1000000000 → tot l ≤ 1000000000 → l.length + 1000000001 < k → laws_markIntSS.l0 k (pre ++ l) a (pre.length : Int) = some (a + (tot l : Int), pre ++ mkS l a)
  | [], pre, a, k, h0, h1, h2, h3, hk => by
    obtain ⟨k, rfl⟩ : ∃ q, k = q + 1 := ⟨k - 1, by omega⟩
    simp only [laws_markIntSS.l0]
    rw [if_neg (by simp)]
    simp [tot, mkS]
  | x :: l, pre, a, k, h0, h1, h2, h3, hk => by
    obtain ⟨k, rfl⟩ : ∃ q, k = q + 1 := ⟨k - 1, by omega⟩
    rw [tot_cons] at h1 h3
    rw [List.length_cons] at h2 hk
    have ih := markSS_l0 l (pre ++ [mk a x.length]) (a + (x.length : Int)) k (by omega) (by omega) (by simp; omega) (by omega) (by omega)
    have e : (pre ++ x :: l).getD ((pre.length : Int)).toNat [] = x := by simp [List.getD_eq_getElem?_getD]
    have e2 : (pre ++ x :: l).set ((pre.length : Int)).toNat (mk a x.length) = (pre ++ [mk a x.length]) ++ l := by simp [List.set_append_right]
    simp only [laws_markIntSS.l0]
    rw [if_pos (by simp; omega), if_pos (by omega), e, markIntS_f x a h0 (by omega) (by omega) (by omega), Option.bind_some, e2, up64 (n := pre.length + 1) (by omega) (by omega)]
    rw [show (((pre.length + 1 : Nat)) : Int) = ((pre ++ [mk a x.length]).length : Int) by simp, ih]
    simp [tot_cons, mkS]
    omega
theorem heldSS_l0 (L : List (List Int)) : ∀ (l pre : List (List Int)) (a : Int) (k : Nat), L = pre ++ mkS l a → 0 ≤ a → a + (tot l : Int) ≤ 100000000000 → pre.length + l.length ≤ 1000000000 → tot l ≤ 1000000000 → l.length + 1000000001 < k → laws_heldIntSS.l0 k L a (pre.length : Int) = some (a + (tot l : Int))
  | [], pre, a, k, hL, h0, h1, h2, h3, hk => by
    obtain ⟨k, rfl⟩ : ∃ q, k = q + 1 := ⟨k - 1, by omega⟩
    simp only [laws_heldIntSS.l0]
    rw [if_neg (by rw [hL]; simp [mkS])]
    simp [tot]
  | x :: l, pre, a, k, hL, h0, h1, h2, h3, hk => by
    obtain ⟨k, rfl⟩ : ∃ q, k = q + 1 := ⟨k - 1, by omega⟩
    rw [tot_cons] at h1 h3
    rw [List.length_cons] at h2 hk
    have ih := heldSS_l0 L l (pre ++ [mk a x.length]) (a + (x.length : Int)) k (by rw [hL]; simp [mkS]) (by omega) (by omega) (by simp; omega) (by omega) (by omega)
    have e : rd_L1 L (pre.length : Int) = mk a x.length := by rw [hL]; unfold rd_L1; simp [mkS, List.getD_eq_getElem?_getD]
    have hlen : L.length = pre.length + (l.length + 1) := by rw [hL]; simp [mkS, mkS_len]
    simp only [laws_heldIntSS.l0]
    rw [if_pos (by omega), if_pos (by omega), e, heldIntS_f x.length a h0 (by omega) (by omega) (by omega), Option.bind_some, if_neg (by omega), up64 (n := pre.length + 1) (by omega) (by omega)]
    rw [show (((pre.length + 1 : Nat)) : Int) = ((pre ++ [mk a x.length]).length : Int) by simp, ih]
    simp [tot_cons]
    omega
theorem markIntSS_ev (l : List (List Int)) (a : Int) (h0 : 0 ≤ a) (h1 : a ≤ 1000000000) (hn : l.length ≤ 1000000000) (ht : tot l ≤ 1000000000) : ∃ k m L, a ≤ m ∧ m = a + (tot l : Int) ∧ L.length = l.length ∧ laws_markIntSS.f k l a = some (m, L) ∧ laws_heldIntSS.f k L a = some m :=
  ⟨3000000000, a + (tot l : Int), mkS l a, by omega, rfl, mkS_len _ _, markSS_l0 l [] a _ h0 (by omega) (by simpa using hn) ht (by omega), heldSS_l0 (mkS l a) l [] a _ rfl h0 (by omega) (by simpa using hn) ht (by omega)⟩

end Aux
def laws_FnExactLikeWires.f (k : Nat) (l0 : List Int) (l1 : List Int) : Option Bool := if 1048576 < l0.length then some true else (if 1048576 < l1.length then some true else ((spec_LikeWires.f k l0 l1).bind fun s => (impl_LikeWires.f k l0 l1).bind fun g => if g = s ∧ s.1.length ≤ 1000000000 ∧ Aux.tot s.1 ≤ 1000000000 then some true else none))
open Go.Proofs.YthkoignldhocgaaW.Rng in
set_option maxHeartbeats 4000000 in
set_option maxRecDepth 100000 in
theorem laws_FnExactLikeWires.calls (k : Nat) (A0 : Option Addr) (c0 : Nat) (l0 : List Int) (A1 : Option Addr) (c1 : Nat) (l1 : List Int) (r : Bool) (w : World) (hr0 : Kd.C (Kd.int .i64) w A0 l0.length l0) (hc0 : l0.length ≤ c0) (hr1 : Kd.C (Kd.int .i64) w A1 l1.length l1) (hc1 : l1.length ≤ c1) (h : laws_FnExactLikeWires.f k l0 l1 = some r) :
    Calls Try.prog 8 #[.slice A0 l0.length c0, .slice A1 l1.length c1] w fun e w' => e = .returned (.bool r) ∧ Below w.heap.size w w' := by
  have HR0 := Aside0.mk hr0
  have HC0 := Aside0.mk hc0
  clear hr0 hc0
  have HR1 := Aside0.mk hr1
  have HC1 := Aside0.mk hc1
  clear hr1 hc1
  have HB := Aside0.mk (Below.refl w.heap.size w)
  unfold laws_FnExactLikeWires.f at h
  by_cases z0 : 1048576 < l0.length
  · rw [if_pos z0] at h
    obtain rfl := Option.some.inj h
    clear h
    have d1 : decide (1048576 < (l0.length : Int)) = true := decide_eq_true (by omega)
    have d2 : decide (1048576 < l0.length) = true := decide_eq_true z0
    clear z0
    go_enter Try.func8, Try.ntmps8
    go_wp2
    go_ret
    exact ⟨rfl, HB.out⟩
  · rw [if_neg z0] at h
    have d01 : decide (1048576 < (l0.length : Int)) = false := decide_eq_false (by omega)
    have d02 : decide (1048576 < l0.length) = false := decide_eq_false z0
    by_cases z1 : 1048576 < l1.length
    · rw [if_pos z1] at h
      obtain rfl := Option.some.inj h
      clear h
      have d1 : decide (1048576 < (l1.length : Int)) = true := decide_eq_true (by omega)
      have d2 : decide (1048576 < l1.length) = true := decide_eq_true z1
      clear z1
      go_enter Try.func8, Try.ntmps8
      go_wp2
      go_ret
      exact ⟨rfl, HB.out⟩
    · rw [if_neg z1] at h
      have d11 : decide (1048576 < (l1.length : Int)) = false := decide_eq_false (by omega)
      have d12 : decide (1048576 < l1.length) = false := decide_eq_false z1
      replace h := Option.bind_eq_some_iff.mp h
      obtain ⟨s, hs, h⟩ := h
      replace h := Option.bind_eq_some_iff.mp h
      obtain ⟨g, hg, h⟩ := h
      by_cases hgs_ : g = s ∧ s.1.length ≤ 1000000000 ∧ Aux.tot s.1 ≤ 1000000000
      case neg => rw [if_neg hgs_] at h; cases h
      rw [if_pos hgs_] at h
      obtain ⟨hgs, hbd⟩ := hgs_
      subst hgs
      obtain rfl := Option.some.inj h
      clear h
      obtain ⟨R0, R1⟩ := g
      dsimp only at hbd
      have SP := Aside0.mk hs
      have IM := Aside0.mk hg
      clear hs hg
      have eb1 : (R1 != R1) = false := by simp
      obtain ⟨kt0, ht_⟩ := Aux.toIntS_ev l0 (by omega)
      have TO0 := Aside0.mk ht_
      obtain ⟨ke0, he_⟩ := Aux.eqIntS_ev l0 (by omega)
      have EQ0 := Aside0.mk he_
      clear ht_ he_
      obtain ⟨kt1, ht_⟩ := Aux.toIntS_ev l1 (by omega)
      have TO1 := Aside0.mk ht_
      obtain ⟨ke1, he_⟩ := Aux.eqIntS_ev l1 (by omega)
      have EQ1 := Aside0.mk he_
      clear ht_ he_
      obtain ⟨km0, m0, L0, mp0, me0, ml_, mk_, mh_⟩ := Aux.markIntS_ev l0 1 (by omega) (by omega) (by omega)
      have ML0 := Aside0.mk ml_
      have MK0 := Aside0.mk mk_
      clear ml_ mk_ mh_
      obtain ⟨km1, m1, L1, mp1, me1, ml_, mk_, mh_⟩ := Aux.markIntS_ev l1 m0 (by omega) (by omega) (by omega)
      have ML1 := Aside0.mk ml_
      have MK1 := Aside0.mk mk_
      clear ml_ mk_ mh_
      have dk_ : decide (m1 < 0) = false := decide_eq_false (by omega)
      obtain ⟨keR, he_⟩ := Aux.eqIntSS_ev R0 hbd.1 hbd.2
      have EQR := Aside0.mk he_
      obtain ⟨kmR, mR, LR, mpR, meR, ml_, mk_, mh_⟩ := Aux.markIntSS_ev R0 1 (by omega) (by omega) hbd.1 hbd.2
      have MLR := Aside0.mk ml_
      have MKR := Aside0.mk mk_
      have MHR := Aside0.mk mh_
      have dm_ : decide (mR < 0) = false := decide_eq_false (by omega)
      have em_ : (mR != mR) = false := by simp
      clear ml_ mk_ mh_ he_
      clear me0 mp0
      clear me1 mp1
      clear meR mpR hbd
      clear z0
      clear z1
      go_enter Try.func8, Try.ntmps8
      go_wp2_with fail
      refine (laws_toIntS.calls kt0 A0 c0 l0 l0 _ (Kd.C_below HR0.out HB.out) HC0.out TO0.out).mono ?_
      rintro e_ w1 ⟨vx1, rfl, hv_, hb_⟩
      obtain ⟨Ax1, cx1, rfl⟩ := Kd.R_slice hv_
      have Ox1 := Aside0.mk (OR.made hv_ HB.out.size)
      have M0 := Aside0.mk hb_.size
      have n_ := Aside0.mk (below_step HB.out hb_); clear HB; have HB := n_; clear n_
      clear hb_ hv_
      go_wp2_with fail
      refine (laws_toIntS.calls kt1 A1 c1 l1 l1 _ (Kd.C_below HR1.out HB.out) HC1.out TO1.out).mono ?_
      rintro e_ w2 ⟨vx2, rfl, hv_, hb_⟩
      obtain ⟨Ax2, cx2, rfl⟩ := Kd.R_slice hv_
      have Ox2 := Aside0.mk (OR.made hv_ HB.out.size)
      have M1 := Aside0.mk hb_.size
      have n_ := Aside0.mk (below_step HB.out hb_); clear HB; have HB := n_; clear n_
      have n_ := Aside0.mk (Ox1.out.below hb_); clear Ox1; have Ox1 := n_; clear n_
      clear hb_ hv_
      go_wp2_with fail
      refine (spec_LikeWires.calls k Ax1 cx1 l0 Ax2 cx2 l1 R0 R1 _ (Kd.R_reads' Ox1.out.row).2.2 (Kd.R_reads' Ox1.out.row).2.1 (Kd.R_reads' Ox2.out.row).2.2 (Kd.R_reads' Ox2.out.row).2.1 SP.out).mono ?_
      rintro e_ w3 ⟨vrw, rfl, hv_, hb_⟩
      obtain ⟨Arw, crw, rfl⟩ := Kd.S_slice hv_
      have Orw := Aside0.mk (OS.made hv_ HB.out.size)
      have M2 := Aside0.mk hb_.size
      have n_ := Aside0.mk (below_step HB.out hb_); clear HB; have HB := n_; clear n_
      have n_ := Aside0.mk (Ox1.out.below hb_); clear Ox1; have Ox1 := n_; clear n_
      have n_ := Aside0.mk (Ox2.out.below hb_); clear Ox2; have Ox2 := n_; clear n_
      clear hb_ hv_
      go_wp2_with fail
      refine (laws_toIntS.calls kt0 A0 c0 l0 l0 _ (Kd.C_below HR0.out HB.out) HC0.out TO0.out).mono ?_
      rintro e_ w4 ⟨vx3, rfl, hv_, hb_⟩
      obtain ⟨Ax3, cx3, rfl⟩ := Kd.R_slice hv_
      have Ox3 := Aside0.mk (OR.made hv_ HB.out.size)
      have M3 := Aside0.mk hb_.size
      have n_ := Aside0.mk (below_step HB.out hb_); clear HB; have HB := n_; clear n_
      have n_ := Aside0.mk (Ox1.out.below hb_); clear Ox1; have Ox1 := n_; clear n_
      have n_ := Aside0.mk (Ox2.out.below hb_); clear Ox2; have Ox2 := n_; clear n_
      have n_ := Aside0.mk (Orw.out.below hb_); clear Orw; have Orw := n_; clear n_
      clear hb_ hv_
      go_wp2_with fail
      refine (laws_toIntS.calls kt1 A1 c1 l1 l1 _ (Kd.C_below HR1.out HB.out) HC1.out TO1.out).mono ?_
      rintro e_ w5 ⟨vx4, rfl, hv_, hb_⟩
      obtain ⟨Ax4, cx4, rfl⟩ := Kd.R_slice hv_
      have Ox4 := Aside0.mk (OR.made hv_ HB.out.size)
      have M4 := Aside0.mk hb_.size
      have n_ := Aside0.mk (below_step HB.out hb_); clear HB; have HB := n_; clear n_
      have n_ := Aside0.mk (Ox1.out.below hb_); clear Ox1; have Ox1 := n_; clear n_
      have n_ := Aside0.mk (Ox2.out.below hb_); clear Ox2; have Ox2 := n_; clear n_
      have n_ := Aside0.mk (Orw.out.below hb_); clear Orw; have Orw := n_; clear n_
      have n_ := Aside0.mk (Ox3.out.below hb_); clear Ox3; have Ox3 := n_; clear n_
      clear hb_ hv_
      go_wp2_with fail
      refine (impl_LikeWires.calls k Ax3 cx3 l0 Ax4 cx4 l1 R0 R1 _ (Kd.R_reads' Ox3.out.row).2.2 (Kd.R_reads' Ox3.out.row).2.1 (Kd.R_reads' Ox4.out.row).2.2 (Kd.R_reads' Ox4.out.row).2.1 IM.out).mono ?_
      rintro e_ w6 ⟨vrg, rfl, hv_, hb_⟩
      obtain ⟨Arg, crg, rfl⟩ := Kd.S_slice hv_
      have Org := Aside0.mk (OS.made hv_ HB.out.size)
      have M5 := Aside0.mk hb_.size
      have n_ := Aside0.mk (below_step HB.out hb_); clear HB; have HB := n_; clear n_
      have n_ := Aside0.mk (Ox1.out.below hb_); clear Ox1; have Ox1 := n_; clear n_
      have n_ := Aside0.mk (Ox2.out.below hb_); clear Ox2; have Ox2 := n_; clear n_
      have n_ := Aside0.mk (Orw.out.below hb_); clear Orw; have Orw := n_; clear n_
      have n_ := Aside0.mk (Ox3.out.below hb_); clear Ox3; have Ox3 := n_; clear n_
      have n_ := Aside0.mk (Ox4.out.below hb_); clear Ox4; have Ox4 := n_; clear n_
      clear hb_ hv_
      go_wp2_with fail
      refine (laws_eqIntSS.calls keR Arg crg R0 Arw crw R0 _ _ (Kd.S_reads' Org.out.row).2.2 (Kd.S_reads' Org.out.row).2.1 (Kd.S_reads' Orw.out.row).2.2 (Kd.S_reads' Orw.out.row).2.1 EQR.out).mono ?_
      rintro e_ w7 ⟨rfl, hd_⟩
      have hb_ := (by first | exact hd_ | exact drawn_below hd_ : Below w6.heap.size w6 w7)
      have M6 := Aside0.mk hb_.size
      have n_ := Aside0.mk (below_step HB.out hb_); clear HB; have HB := n_; clear n_
      have n_ := Aside0.mk (Ox1.out.below hb_); clear Ox1; have Ox1 := n_; clear n_
      have n_ := Aside0.mk (Ox2.out.below hb_); clear Ox2; have Ox2 := n_; clear n_
      have n_ := Aside0.mk (Orw.out.below hb_); clear Orw; have Orw := n_; clear n_
      have n_ := Aside0.mk (Ox3.out.below hb_); clear Ox3; have Ox3 := n_; clear n_
      have n_ := Aside0.mk (Ox4.out.below hb_); clear Ox4; have Ox4 := n_; clear n_
      have n_ := Aside0.mk (Org.out.below hb_); clear Org; have Org := n_; clear n_
      clear hb_ hd_
      go_wp2_with fail
      refine (laws_toIntS.calls kt0 A0 c0 l0 l0 _ (Kd.C_below HR0.out HB.out) HC0.out TO0.out).mono ?_
      rintro e_ w8 ⟨vx5, rfl, hv_, hb_⟩
      obtain ⟨Ax5, cx5, rfl⟩ := Kd.R_slice hv_
      have Ox5 := Aside0.mk (OR.made hv_ HB.out.size)
      have M7 := Aside0.mk hb_.size
      have n_ := Aside0.mk (below_step HB.out hb_); clear HB; have HB := n_; clear n_
      have n_ := Aside0.mk (Ox1.out.below hb_); clear Ox1; have Ox1 := n_; clear n_
      have n_ := Aside0.mk (Ox2.out.below hb_); clear Ox2; have Ox2 := n_; clear n_
      have n_ := Aside0.mk (Orw.out.below hb_); clear Orw; have Orw := n_; clear n_
      have n_ := Aside0.mk (Ox3.out.below hb_); clear Ox3; have Ox3 := n_; clear n_
      have n_ := Aside0.mk (Ox4.out.below hb_); clear Ox4; have Ox4 := n_; clear n_
      have n_ := Aside0.mk (Org.out.below hb_); clear Org; have Org := n_; clear n_
      clear hb_ hv_
      go_wp2_with fail
      refine (laws_eqIntS.calls ke0 Ax3 cx3 l0 Ax5 cx5 l0 _ _ (Kd.R_reads' Ox3.out.row).2.2 (Kd.R_reads' Ox3.out.row).2.1 (Kd.R_reads' Ox5.out.row).2.2 (Kd.R_reads' Ox5.out.row).2.1 EQ0.out).mono ?_
      rintro e_ w9 ⟨rfl, hd_⟩
      have hb_ := (by first | exact hd_ | exact drawn_below hd_ : Below w8.heap.size w8 w9)
      have M8 := Aside0.mk hb_.size
      have n_ := Aside0.mk (below_step HB.out hb_); clear HB; have HB := n_; clear n_
      have n_ := Aside0.mk (Ox1.out.below hb_); clear Ox1; have Ox1 := n_; clear n_
      have n_ := Aside0.mk (Ox2.out.below hb_); clear Ox2; have Ox2 := n_; clear n_
      have n_ := Aside0.mk (Orw.out.below hb_); clear Orw; have Orw := n_; clear n_
      have n_ := Aside0.mk (Ox3.out.below hb_); clear Ox3; have Ox3 := n_; clear n_
      have n_ := Aside0.mk (Ox4.out.below hb_); clear Ox4; have Ox4 := n_; clear n_
      have n_ := Aside0.mk (Org.out.below hb_); clear Org; have Org := n_; clear n_
      have n_ := Aside0.mk (Ox5.out.below hb_); clear Ox5; have Ox5 := n_; clear n_
      clear hb_ hd_
      go_wp2_with fail
      refine (laws_toIntS.calls kt1 A1 c1 l1 l1 _ (Kd.C_below HR1.out HB.out) HC1.out TO1.out).mono ?_
      rintro e_ w10 ⟨vx6, rfl, hv_, hb_⟩
      obtain ⟨Ax6, cx6, rfl⟩ := Kd.R_slice hv_
      have Ox6 := Aside0.mk (OR.made hv_ HB.out.size)
      have M9 := Aside0.mk hb_.size
      have n_ := Aside0.mk (below_step HB.out hb_); clear HB; have HB := n_; clear n_
      have n_ := Aside0.mk (Ox1.out.below hb_); clear Ox1; have Ox1 := n_; clear n_
      have n_ := Aside0.mk (Ox2.out.below hb_); clear Ox2; have Ox2 := n_; clear n_
      have n_ := Aside0.mk (Orw.out.below hb_); clear Orw; have Orw := n_; clear n_
      have n_ := Aside0.mk (Ox3.out.below hb_); clear Ox3; have Ox3 := n_; clear n_
      have n_ := Aside0.mk (Ox4.out.below hb_); clear Ox4; have Ox4 := n_; clear n_
      have n_ := Aside0.mk (Org.out.below hb_); clear Org; have Org := n_; clear n_
      have n_ := Aside0.mk (Ox5.out.below hb_); clear Ox5; have Ox5 := n_; clear n_
      clear hb_ hv_
      go_wp2_with fail
      refine (laws_eqIntS.calls ke1 Ax4 cx4 l1 Ax6 cx6 l1 _ _ (Kd.R_reads' Ox4.out.row).2.2 (Kd.R_reads' Ox4.out.row).2.1 (Kd.R_reads' Ox6.out.row).2.2 (Kd.R_reads' Ox6.out.row).2.1 EQ1.out).mono ?_
      rintro e_ w11 ⟨rfl, hd_⟩
      have hb_ := (by first | exact hd_ | exact drawn_below hd_ : Below w10.heap.size w10 w11)
      have M10 := Aside0.mk hb_.size
      have n_ := Aside0.mk (below_step HB.out hb_); clear HB; have HB := n_; clear n_
      have n_ := Aside0.mk (Ox1.out.below hb_); clear Ox1; have Ox1 := n_; clear n_
      have n_ := Aside0.mk (Ox2.out.below hb_); clear Ox2; have Ox2 := n_; clear n_
      have n_ := Aside0.mk (Orw.out.below hb_); clear Orw; have Orw := n_; clear n_
      have n_ := Aside0.mk (Ox3.out.below hb_); clear Ox3; have Ox3 := n_; clear n_
      have n_ := Aside0.mk (Ox4.out.below hb_); clear Ox4; have Ox4 := n_; clear n_
      have n_ := Aside0.mk (Org.out.below hb_); clear Org; have Org := n_; clear n_
      have n_ := Aside0.mk (Ox5.out.below hb_); clear Ox5; have Ox5 := n_; clear n_
      have n_ := Aside0.mk (Ox6.out.below hb_); clear Ox6; have Ox6 := n_; clear n_
      clear hb_ hd_
      go_wp2_with fail
      refine (laws_markIntS.calls km0 (Bt w3.heap.size w4.heap.size) (.slice Ax3 l0.length cx3) l0 1 m0 L0 w w11 HB.out Ox3.out.row MK0.out).mono ?_
      rintro e_ w12 ⟨rfl, hy_, hb_, hk_⟩
      have M11 := Aside0.mk hk_.1
      have n_ := Aside0.mk (Ox1.out.kept hk_ (fun k_ h1_ h2_ => by have := M0.out; have := M1.out; have := M2.out; have := M3.out; have := M4.out; have := M5.out; have := M6.out; have := M7.out; have := M8.out; have := M9.out; have := M10.out; have := M11.out;  unfold Bt at h1_ h2_; omega)); clear Ox1; have Ox1 := n_; clear n_
      have n_ := Aside0.mk (Ox2.out.kept hk_ (fun k_ h1_ h2_ => by have := M0.out; have := M1.out; have := M2.out; have := M3.out; have := M4.out; have := M5.out; have := M6.out; have := M7.out; have := M8.out; have := M9.out; have := M10.out; have := M11.out;  unfold Bt at h1_ h2_; omega)); clear Ox2; have Ox2 := n_; clear n_
      have n_ := Aside0.mk (Orw.out.kept hk_ (fun k_ h1_ h2_ => by have := M0.out; have := M1.out; have := M2.out; have := M3.out; have := M4.out; have := M5.out; have := M6.out; have := M7.out; have := M8.out; have := M9.out; have := M10.out; have := M11.out;  unfold Bt at h1_ h2_; omega)); clear Orw; have Orw := n_; clear n_
      have n_ := Aside0.mk (Ox4.out.kept hk_ (fun k_ h1_ h2_ => by have := M0.out; have := M1.out; have := M2.out; have := M3.out; have := M4.out; have := M5.out; have := M6.out; have := M7.out; have := M8.out; have := M9.out; have := M10.out; have := M11.out;  unfold Bt at h1_ h2_; omega)); clear Ox4; have Ox4 := n_; clear n_
      have n_ := Aside0.mk (Org.out.kept hk_ (fun k_ h1_ h2_ => by have := M0.out; have := M1.out; have := M2.out; have := M3.out; have := M4.out; have := M5.out; have := M6.out; have := M7.out; have := M8.out; have := M9.out; have := M10.out; have := M11.out;  unfold Bt at h1_ h2_; omega)); clear Org; have Org := n_; clear n_
      have n_ := Aside0.mk (Ox5.out.kept hk_ (fun k_ h1_ h2_ => by have := M0.out; have := M1.out; have := M2.out; have := M3.out; have := M4.out; have := M5.out; have := M6.out; have := M7.out; have := M8.out; have := M9.out; have := M10.out; have := M11.out;  unfold Bt at h1_ h2_; omega)); clear Ox5; have Ox5 := n_; clear n_
      have n_ := Aside0.mk (Ox6.out.kept hk_ (fun k_ h1_ h2_ => by have := M0.out; have := M1.out; have := M2.out; have := M3.out; have := M4.out; have := M5.out; have := M6.out; have := M7.out; have := M8.out; have := M9.out; have := M10.out; have := M11.out;  unfold Bt at h1_ h2_; omega)); clear Ox6; have Ox6 := n_; clear n_
      have n_ := Aside0.mk (OR.back rfl Ox3.out hk_ hy_); clear Ox3; have Ox3 := n_; clear n_
      have n_ := Aside0.mk hb_; clear HB; have HB := n_; clear n_ hb_ hy_ hk_
      go_wp2_with fail
      refine (laws_markIntS.calls km1 (Bt w4.heap.size w5.heap.size) (.slice Ax4 l1.length cx4) l1 m0 m1 L1 w w12 HB.out Ox4.out.row MK1.out).mono ?_
      rintro e_ w13 ⟨rfl, hy_, hb_, hk_⟩
      have M12 := Aside0.mk hk_.1
      have n_ := Aside0.mk (Ox1.out.kept hk_ (fun k_ h1_ h2_ => by have := M0.out; have := M1.out; have := M2.out; have := M3.out; have := M4.out; have := M5.out; have := M6.out; have := M7.out; have := M8.out; have := M9.out; have := M10.out; have := M11.out; have := M12.out;  unfold Bt at h1_ h2_; omega)); clear Ox1; have Ox1 := n_; clear n_
      have n_ := Aside0.mk (Ox2.out.kept hk_ (fun k_ h1_ h2_ => by have := M0.out; have := M1.out; have := M2.out; have := M3.out; have := M4.out; have := M5.out; have := M6.out; have := M7.out; have := M8.out; have := M9.out; have := M10.out; have := M11.out; have := M12.out;  unfold Bt at h1_ h2_; omega)); clear Ox2; have Ox2 := n_; clear n_
      have n_ := Aside0.mk (Orw.out.kept hk_ (fun k_ h1_ h2_ => by have := M0.out; have := M1.out; have := M2.out; have := M3.out; have := M4.out; have := M5.out; have := M6.out; have := M7.out; have := M8.out; have := M9.out; have := M10.out; have := M11.out; have := M12.out;  unfold Bt at h1_ h2_; omega)); clear Orw; have Orw := n_; clear n_
      have n_ := Aside0.mk (Ox3.out.kept hk_ (fun k_ h1_ h2_ => by have := M0.out; have := M1.out; have := M2.out; have := M3.out; have := M4.out; have := M5.out; have := M6.out; have := M7.out; have := M8.out; have := M9.out; have := M10.out; have := M11.out; have := M12.out;  unfold Bt at h1_ h2_; omega)); clear Ox3; have Ox3 := n_; clear n_
      have n_ := Aside0.mk (Org.out.kept hk_ (fun k_ h1_ h2_ => by have := M0.out; have := M1.out; have := M2.out; have := M3.out; have := M4.out; have := M5.out; have := M6.out; have := M7.out; have := M8.out; have := M9.out; have := M10.out; have := M11.out; have := M12.out;  unfold Bt at h1_ h2_; omega)); clear Org; have Org := n_; clear n_
      have n_ := Aside0.mk (Ox5.out.kept hk_ (fun k_ h1_ h2_ => by have := M0.out; have := M1.out; have := M2.out; have := M3.out; have := M4.out; have := M5.out; have := M6.out; have := M7.out; have := M8.out; have := M9.out; have := M10.out; have := M11.out; have := M12.out;  unfold Bt at h1_ h2_; omega)); clear Ox5; have Ox5 := n_; clear n_
      have n_ := Aside0.mk (Ox6.out.kept hk_ (fun k_ h1_ h2_ => by have := M0.out; have := M1.out; have := M2.out; have := M3.out; have := M4.out; have := M5.out; have := M6.out; have := M7.out; have := M8.out; have := M9.out; have := M10.out; have := M11.out; have := M12.out;  unfold Bt at h1_ h2_; omega)); clear Ox6; have Ox6 := n_; clear n_
      have n_ := Aside0.mk (OR.back rfl Ox4.out hk_ hy_); clear Ox4; have Ox4 := n_; clear n_
      have n_ := Aside0.mk hb_; clear HB; have HB := n_; clear n_ hb_ hy_ hk_
      go_wp2_with fail
      refine (laws_eqIntSS.calls keR Arg crg R0 Arw crw R0 _ _ (Kd.S_reads' Org.out.row).2.2 (Kd.S_reads' Org.out.row).2.1 (Kd.S_reads' Orw.out.row).2.2 (Kd.S_reads' Orw.out.row).2.1 EQR.out).mono ?_
      rintro e_ w14 ⟨rfl, hd_⟩
      have hb_ := (by first | exact hd_ | exact drawn_below hd_ : Below w13.heap.size w13 w14)
      have M13 := Aside0.mk hb_.size
      have n_ := Aside0.mk (below_step HB.out hb_); clear HB; have HB := n_; clear n_
      have n_ := Aside0.mk (Ox1.out.below hb_); clear Ox1; have Ox1 := n_; clear n_
      have n_ := Aside0.mk (Ox2.out.below hb_); clear Ox2; have Ox2 := n_; clear n_
      have n_ := Aside0.mk (Orw.out.below hb_); clear Orw; have Orw := n_; clear n_
      have n_ := Aside0.mk (Ox3.out.below hb_); clear Ox3; have Ox3 := n_; clear n_
      have n_ := Aside0.mk (Ox4.out.below hb_); clear Ox4; have Ox4 := n_; clear n_
      have n_ := Aside0.mk (Org.out.below hb_); clear Org; have Org := n_; clear n_
      have n_ := Aside0.mk (Ox5.out.below hb_); clear Ox5; have Ox5 := n_; clear n_
      have n_ := Aside0.mk (Ox6.out.below hb_); clear Ox6; have Ox6 := n_; clear n_
      clear hb_ hd_
      go_wp2_with fail
      refine (laws_markIntSS.calls kmR (Bt w5.heap.size w6.heap.size) (.slice Arg R0.length crg) R0 1 mR LR w w14 HB.out Org.out.row MKR.out).mono ?_
      rintro e_ w15 ⟨rfl, hy_, hb_, hk_⟩
      have M14 := Aside0.mk hk_.1
      have n_ := Aside0.mk (Ox1.out.kept hk_ (fun k_ h1_ h2_ => by have := M0.out; have := M1.out; have := M2.out; have := M3.out; have := M4.out; have := M5.out; have := M6.out; have := M7.out; have := M8.out; have := M9.out; have := M10.out; have := M11.out; have := M12.out; have := M13.out; have := M14.out;  unfold Bt at h1_ h2_; omega)); clear Ox1; have Ox1 := n_; clear n_
      have n_ := Aside0.mk (Ox2.out.kept hk_ (fun k_ h1_ h2_ => by have := M0.out; have := M1.out; have := M2.out; have := M3.out; have := M4.out; have := M5.out; have := M6.out; have := M7.out; have := M8.out; have := M9.out; have := M10.out; have := M11.out; have := M12.out; have := M13.out; have := M14.out;  unfold Bt at h1_ h2_; omega)); clear Ox2; have Ox2 := n_; clear n_
      have n_ := Aside0.mk (Orw.out.kept hk_ (fun k_ h1_ h2_ => by have := M0.out; have := M1.out; have := M2.out; have := M3.out; have := M4.out; have := M5.out; have := M6.out; have := M7.out; have := M8.out; have := M9.out; have := M10.out; have := M11.out; have := M12.out; have := M13.out; have := M14.out;  unfold Bt at h1_ h2_; omega)); clear Orw; have Orw := n_; clear n_
      have n_ := Aside0.mk (Ox3.out.kept hk_ (fun k_ h1_ h2_ => by have := M0.out; have := M1.out; have := M2.out; have := M3.out; have := M4.out; have := M5.out; have := M6.out; have := M7.out; have := M8.out; have := M9.out; have := M10.out; have := M11.out; have := M12.out; have := M13.out; have := M14.out;  unfold Bt at h1_ h2_; omega)); clear Ox3; have Ox3 := n_; clear n_
      have n_ := Aside0.mk (Ox4.out.kept hk_ (fun k_ h1_ h2_ => by have := M0.out; have := M1.out; have := M2.out; have := M3.out; have := M4.out; have := M5.out; have := M6.out; have := M7.out; have := M8.out; have := M9.out; have := M10.out; have := M11.out; have := M12.out; have := M13.out; have := M14.out;  unfold Bt at h1_ h2_; omega)); clear Ox4; have Ox4 := n_; clear n_
      have n_ := Aside0.mk (Ox5.out.kept hk_ (fun k_ h1_ h2_ => by have := M0.out; have := M1.out; have := M2.out; have := M3.out; have := M4.out; have := M5.out; have := M6.out; have := M7.out; have := M8.out; have := M9.out; have := M10.out; have := M11.out; have := M12.out; have := M13.out; have := M14.out;  unfold Bt at h1_ h2_; omega)); clear Ox5; have Ox5 := n_; clear n_
      have n_ := Aside0.mk (Ox6.out.kept hk_ (fun k_ h1_ h2_ => by have := M0.out; have := M1.out; have := M2.out; have := M3.out; have := M4.out; have := M5.out; have := M6.out; have := M7.out; have := M8.out; have := M9.out; have := M10.out; have := M11.out; have := M12.out; have := M13.out; have := M14.out;  unfold Bt at h1_ h2_; omega)); clear Ox6; have Ox6 := n_; clear n_
      have n_ := Aside0.mk (OS.back Org.out hk_ hy_); clear Org; have Org := n_; clear n_
      have n_ := Aside0.mk hb_; clear HB; have HB := n_; clear n_ hb_ hy_ hk_
      have q_ := laws_heldIntSS.calls _ Arg crg LR 1 mR w15 (by have z_ := (Kd.S_reads' Org.out.row).2.2; have y_ := (Kd.S_reads' Org.out.row).1; exact z_) (by rw [MLR.out]; exact (Kd.S_reads' Org.out.row).2.1) MHR.out
      rw [MLR.out] at q_
      go_wp2_with fail
      refine (q_).mono ?_
      rintro e_ w16 ⟨rfl, hd_⟩
      have hb_ := (by first | exact hd_ | exact drawn_below hd_ : Below w15.heap.size w15 w16)
      have M15 := Aside0.mk hb_.size
      have n_ := Aside0.mk (below_step HB.out hb_); clear HB; have HB := n_; clear n_
      have n_ := Aside0.mk (Ox1.out.below hb_); clear Ox1; have Ox1 := n_; clear n_
      have n_ := Aside0.mk (Ox2.out.below hb_); clear Ox2; have Ox2 := n_; clear n_
      have n_ := Aside0.mk (Orw.out.below hb_); clear Orw; have Orw := n_; clear n_
      have n_ := Aside0.mk (Ox3.out.below hb_); clear Ox3; have Ox3 := n_; clear n_
      have n_ := Aside0.mk (Ox4.out.below hb_); clear Ox4; have Ox4 := n_; clear n_
      have n_ := Aside0.mk (Org.out.below hb_); clear Org; have Org := n_; clear n_
      have n_ := Aside0.mk (Ox5.out.below hb_); clear Ox5; have Ox5 := n_; clear n_
      have n_ := Aside0.mk (Ox6.out.below hb_); clear Ox6; have Ox6 := n_; clear n_
      clear hb_ hd_
      clear q_
      go_wp2_with fail
      refine (laws_toIntS.calls kt0 A0 c0 l0 l0 _ (Kd.C_below HR0.out HB.out) HC0.out TO0.out).mono ?_
      rintro e_ w17 ⟨vx7, rfl, hv_, hb_⟩
      obtain ⟨Ax7, cx7, rfl⟩ := Kd.R_slice hv_
      have Ox7 := Aside0.mk (OR.made hv_ HB.out.size)
      have M16 := Aside0.mk hb_.size
      have n_ := Aside0.mk (below_step HB.out hb_); clear HB; have HB := n_; clear n_
      have n_ := Aside0.mk (Ox1.out.below hb_); clear Ox1; have Ox1 := n_; clear n_
      have n_ := Aside0.mk (Ox2.out.below hb_); clear Ox2; have Ox2 := n_; clear n_
      have n_ := Aside0.mk (Orw.out.below hb_); clear Orw; have Orw := n_; clear n_
      have n_ := Aside0.mk (Ox3.out.below hb_); clear Ox3; have Ox3 := n_; clear n_
      have n_ := Aside0.mk (Ox4.out.below hb_); clear Ox4; have Ox4 := n_; clear n_
      have n_ := Aside0.mk (Org.out.below hb_); clear Org; have Org := n_; clear n_
      have n_ := Aside0.mk (Ox5.out.below hb_); clear Ox5; have Ox5 := n_; clear n_
      have n_ := Aside0.mk (Ox6.out.below hb_); clear Ox6; have Ox6 := n_; clear n_
      clear hb_ hv_
      go_wp2_with fail
      refine (laws_toIntS.calls kt1 A1 c1 l1 l1 _ (Kd.C_below HR1.out HB.out) HC1.out TO1.out).mono ?_
      rintro e_ w18 ⟨vx8, rfl, hv_, hb_⟩
      obtain ⟨Ax8, cx8, rfl⟩ := Kd.R_slice hv_
      have Ox8 := Aside0.mk (OR.made hv_ HB.out.size)
      have M17 := Aside0.mk hb_.size
      have n_ := Aside0.mk (below_step HB.out hb_); clear HB; have HB := n_; clear n_
      have n_ := Aside0.mk (Ox1.out.below hb_); clear Ox1; have Ox1 := n_; clear n_
      have n_ := Aside0.mk (Ox2.out.below hb_); clear Ox2; have Ox2 := n_; clear n_
      have n_ := Aside0.mk (Orw.out.below hb_); clear Orw; have Orw := n_; clear n_
      have n_ := Aside0.mk (Ox3.out.below hb_); clear Ox3; have Ox3 := n_; clear n_
      have n_ := Aside0.mk (Ox4.out.below hb_); clear Ox4; have Ox4 := n_; clear n_
      have n_ := Aside0.mk (Org.out.below hb_); clear Org; have Org := n_; clear n_
      have n_ := Aside0.mk (Ox5.out.below hb_); clear Ox5; have Ox5 := n_; clear n_
      have n_ := Aside0.mk (Ox6.out.below hb_); clear Ox6; have Ox6 := n_; clear n_
      have n_ := Aside0.mk (Ox7.out.below hb_); clear Ox7; have Ox7 := n_; clear n_
      clear hb_ hv_
      go_wp2_with fail
      refine (impl_LikeWires.calls k Ax7 cx7 l0 Ax8 cx8 l1 R0 R1 _ (Kd.R_reads' Ox7.out.row).2.2 (Kd.R_reads' Ox7.out.row).2.1 (Kd.R_reads' Ox8.out.row).2.2 (Kd.R_reads' Ox8.out.row).2.1 IM.out).mono ?_
      rintro e_ w19 ⟨vrh, rfl, hv_, hb_⟩
      obtain ⟨Arh, crh, rfl⟩ := Kd.S_slice hv_
      have Orh := Aside0.mk (OS.made hv_ HB.out.size)
      have M18 := Aside0.mk hb_.size
      have n_ := Aside0.mk (below_step HB.out hb_); clear HB; have HB := n_; clear n_
      have n_ := Aside0.mk (Ox1.out.below hb_); clear Ox1; have Ox1 := n_; clear n_
      have n_ := Aside0.mk (Ox2.out.below hb_); clear Ox2; have Ox2 := n_; clear n_
      have n_ := Aside0.mk (Orw.out.below hb_); clear Orw; have Orw := n_; clear n_
      have n_ := Aside0.mk (Ox3.out.below hb_); clear Ox3; have Ox3 := n_; clear n_
      have n_ := Aside0.mk (Ox4.out.below hb_); clear Ox4; have Ox4 := n_; clear n_
      have n_ := Aside0.mk (Org.out.below hb_); clear Org; have Org := n_; clear n_
      have n_ := Aside0.mk (Ox5.out.below hb_); clear Ox5; have Ox5 := n_; clear n_
      have n_ := Aside0.mk (Ox6.out.below hb_); clear Ox6; have Ox6 := n_; clear n_
      have n_ := Aside0.mk (Ox7.out.below hb_); clear Ox7; have Ox7 := n_; clear n_
      have n_ := Aside0.mk (Ox8.out.below hb_); clear Ox8; have Ox8 := n_; clear n_
      clear hb_ hv_
      go_wp2_with fail
      refine (laws_eqIntSS.calls keR Arh crh R0 Arw crw R0 _ _ (Kd.S_reads' Orh.out.row).2.2 (Kd.S_reads' Orh.out.row).2.1 (Kd.S_reads' Orw.out.row).2.2 (Kd.S_reads' Orw.out.row).2.1 EQR.out).mono ?_
      rintro e_ w20 ⟨rfl, hd_⟩
      have hb_ := (by first | exact hd_ | exact drawn_below hd_ : Below w19.heap.size w19 w20)
      have M19 := Aside0.mk hb_.size
      have n_ := Aside0.mk (below_step HB.out hb_); clear HB; have HB := n_; clear n_
      have n_ := Aside0.mk (Ox1.out.below hb_); clear Ox1; have Ox1 := n_; clear n_
      have n_ := Aside0.mk (Ox2.out.below hb_); clear Ox2; have Ox2 := n_; clear n_
      have n_ := Aside0.mk (Orw.out.below hb_); clear Orw; have Orw := n_; clear n_
      have n_ := Aside0.mk (Ox3.out.below hb_); clear Ox3; have Ox3 := n_; clear n_
      have n_ := Aside0.mk (Ox4.out.below hb_); clear Ox4; have Ox4 := n_; clear n_
      have n_ := Aside0.mk (Org.out.below hb_); clear Org; have Org := n_; clear n_
      have n_ := Aside0.mk (Ox5.out.below hb_); clear Ox5; have Ox5 := n_; clear n_
      have n_ := Aside0.mk (Ox6.out.below hb_); clear Ox6; have Ox6 := n_; clear n_
      have n_ := Aside0.mk (Ox7.out.below hb_); clear Ox7; have Ox7 := n_; clear n_
      have n_ := Aside0.mk (Ox8.out.below hb_); clear Ox8; have Ox8 := n_; clear n_
      have n_ := Aside0.mk (Orh.out.below hb_); clear Orh; have Orh := n_; clear n_
      clear hb_ hd_
      have q_ := laws_heldIntSS.calls _ Arg crg LR 1 mR w20 (by have z_ := (Kd.S_reads' Org.out.row).2.2; have y_ := (Kd.S_reads' Org.out.row).1; exact z_) (by rw [MLR.out]; exact (Kd.S_reads' Org.out.row).2.1) MHR.out
      rw [MLR.out] at q_
      go_wp2_with fail
      refine (q_).mono ?_
      rintro e_ w21 ⟨rfl, hd_⟩
      have hb_ := (by first | exact hd_ | exact drawn_below hd_ : Below w20.heap.size w20 w21)
      have M20 := Aside0.mk hb_.size
      have n_ := Aside0.mk (below_step HB.out hb_); clear HB; have HB := n_; clear n_
      have n_ := Aside0.mk (Ox1.out.below hb_); clear Ox1; have Ox1 := n_; clear n_
      have n_ := Aside0.mk (Ox2.out.below hb_); clear Ox2; have Ox2 := n_; clear n_
      have n_ := Aside0.mk (Orw.out.below hb_); clear Orw; have Orw := n_; clear n_
      have n_ := Aside0.mk (Ox3.out.below hb_); clear Ox3; have Ox3 := n_; clear n_
      have n_ := Aside0.mk (Ox4.out.below hb_); clear Ox4; have Ox4 := n_; clear n_
      have n_ := Aside0.mk (Org.out.below hb_); clear Org; have Org := n_; clear n_
      have n_ := Aside0.mk (Ox5.out.below hb_); clear Ox5; have Ox5 := n_; clear n_
      have n_ := Aside0.mk (Ox6.out.below hb_); clear Ox6; have Ox6 := n_; clear n_
      have n_ := Aside0.mk (Ox7.out.below hb_); clear Ox7; have Ox7 := n_; clear n_
      have n_ := Aside0.mk (Ox8.out.below hb_); clear Ox8; have Ox8 := n_; clear n_
      have n_ := Aside0.mk (Orh.out.below hb_); clear Orh; have Orh := n_; clear n_
      clear hb_ hd_
      clear q_
      go_wp2
      go_ret
      exact ⟨rfl, HB.out⟩

end Go.Proofs.Ythkoignldhocgaa.PFnExactLikeWires
