-- Written by a program of this claim, over the kit's print: the functions that a law reaches, their plain forms and the walks.
import Derived.Test.YtoncbgjbkgdbaaaPFnExactMostInformedx0
import Derived.Test.YtoncbgjbkgdbaaaPFnExactMostInformedx4
import Derived.Test.YtoncbgjbkgdbaaaPFnExactMostInformedx5
namespace Go.Proofs.Ytoncbgjbkgdbaaa.PFnExactMostInformed
open Go.RowKit Go.Proofs.YtoncbgjbkgdbaaaW.PrintWords Go.Proofs.YtoncbgjbkgdbaaaW.PrintLast Go.Proofs.YtoncbgjbkgdbaaaW.PrintMore
attribute [local go_sem] max2_int min2_int max_two min_two max_three min_three max_four min_four   -- for this text's walks alone
set_option linter.unusedVariables false
set_option linter.unusedSimpArgs false

/-! ### impl_isSpread: function 33 -/
def impl_isSpread.f (k : Nat) (a0 : Int) (l1 : List (S54)) : Option (Bool) := if a0 ≤ 8 then ((impl_ArePairs.f k a0 l1).bind fun t200 => (some t200)) else (some false)
theorem impl_isSpread.mono : ∀ a0 a1 k, LeO (impl_isSpread.f k a0 a1) (impl_isSpread.f (k + 1) a0 a1) := by
  intro a0 a1 k
  unfold impl_isSpread.f
  repeat' first
      | (with_reducible exact impl_ArePairs.mono _ _ _)
      | (with_reducible exact LeO.refl _)
      | (with_reducible exact LeO.none _)
      | (with_reducible refine LeO.ite ?_ ?_)
      | (with_reducible refine LeO.bind ?_ (fun _ => ?_))
      | exact impl_ArePairs.mono _ _ _
      | exact LeO.none _
      | refine LeO.ite ?_ ?_
      | refine LeO.bind ?_ (fun _ => ?_)
set_option maxHeartbeats 8000000 in
set_option maxRecDepth 100000 in
theorem impl_isSpread.calls (k : Nat) (a0 : Int) (A1 : Option Addr) (c1 : Nat) (l1 : List (S54)) (r : Bool) (w : World) (hr1 : Kd.C k54 w A1 l1.length l1) (hc1 : l1.length ≤ c1) (h : impl_isSpread.f k a0 l1 = some r) :
    Calls Try.prog 33 #[.int .i64 a0, .slice A1 l1.length c1] w fun e w' => e = .returned (.bool r) ∧ Below w.heap.size w w' := by
  have HR1 := Aside0.mk hr1
  have HC1 := Aside0.mk hc1
  clear hr1 hc1
  have HB := Aside0.mk (Below.refl w.heap.size w)
  have H : (if a0 ≤ 8 then ((impl_ArePairs.f k a0 l1).bind fun t200 => (some t200)) else (some false)) = some r := h
  clear h
  by_cases c3 : a0 ≤ 8
  · rw [if_pos c3] at H
    have c3b0 : decide (a0 ≤ 8) = true := decide_eq_true c3
    clear c3
    replace H := Option.bind_eq_some_iff.mp H
    obtain ⟨t200, A40, H⟩ := H
    replace H : (some t200) = some r := H
    have A4 := Aside0.mk A40
    clear A40
    obtain rfl := Option.some.inj H
    go_enter Try.func33, Try.ntmps33
    go_wp2_with (first | (go_at_call 52; (with_reducible refine (impl_ArePairs.calls k a0 _ _ l1 t200 _ ?side1 ?side2 A4.out).mono ?_); (case side1 => repeat (first | exact HR1.out | (with_reducible refine Kd.C_alloc ?_ _) | (with_reducible refine Kd.C_drewN ?_ _) | (with_reducible refine Kd.C_drew ?_))); (case side2 => exact HC1.out); rintro e w5 ⟨rfl, hb⟩; have n0_ := Aside0.mk (below_step (by repeat (first | (with_reducible first | exact HB.out | apply below_alloc | apply pw_below_drewN | apply below_drew1) | exact HB.out)) hb); clear HB; have HB := n0_; clear n0_; (try clear hb); (try clear hb2); (try clear hk); (try clear hi)))
    go_ret
    exact ⟨by first | rfl | (simp [errW_none, errW_some] <;> rfl) | (simp [*, errW_none, errW_some] <;> rfl), by repeat (first | (with_reducible first | exact HB.out | apply below_alloc | apply pw_below_drewN | apply below_drew1) | exact HB.out)⟩
  · rw [if_neg c3] at H
    have c3b0 : decide (a0 ≤ 8) = false := decide_eq_false c3
    clear c3
    obtain rfl := Option.some.inj H
    go_enter Try.func33, Try.ntmps33
    go_wp2
    go_ret
    exact ⟨by first | rfl | (simp [errW_none, errW_some] <;> rfl) | (simp [*, errW_none, errW_some] <;> rfl), by repeat (first | (with_reducible first | exact HB.out | apply below_alloc | apply pw_below_drewN | apply below_drew1) | exact HB.out)⟩

/-! ### impl_isFriend: function 34 -/
def impl_isFriend.f (a0 : Int) (a1 : Int) : Option (Bool) := (impl_within.f a1 0 (wrap64 (a0 - 1))).bind fun t201 => (some t201)
set_option maxHeartbeats 8000000 in
set_option maxRecDepth 100000 in
theorem impl_isFriend.calls (a0 : Int) (a1 : Int) (r : Bool) (w : World) (h : impl_isFriend.f a0 a1 = some r) :
    Calls Try.prog 34 #[.int .i64 a0, .int .i64 a1] w fun e w' => e = .returned (.bool r) ∧ Drawn0 w w' := by
  have H : ((impl_within.f a1 0 (wrap64 (a0 - 1))).bind fun t201 => (some t201)) = some r := h
  clear h
  replace H := Option.bind_eq_some_iff.mp H
  obtain ⟨t201, A30, H⟩ := H
  replace H : (some t201) = some r := H
  have A3 := Aside0.mk A30
  clear A30
  obtain rfl := Option.some.inj H
  go_enter Try.func34, Try.ntmps34
  go_wp2_with (first | ((with_reducible refine gate_callee (f := 35) rfl ?_); refine goesL_ (some 8) rfl rfl Try.func35 (by kernel_rfl) rfl #[.int .i64 a1, .int .i64 0, .int .i64 (wrap64 (a0 - 1))] rfl (by (try simp only [List.map_toArray, List.map_cons, List.map_nil]); first | done | rfl | (simp only [List.length_drop, List.length_take]; rfl) | (simp; done) | (refine congrArg Value.bool ?_; simp; done) | (refine congrArg (fun z_ => #[Value.bool z_]) ?_; simp; done)) ?_; (with_reducible refine (impl_within.calls a1 0 (wrap64 (a0 - 1)) t201 _ A3.out).mono ?_); rintro e w' ⟨rfl, ⟨nd, rfl⟩⟩; refine ⟨_, rfl, ?_⟩))
  go_ret
  exact ⟨by first | rfl | (simp; done) | (simp [*]; done), by repeat (first | exact Drawn0.refl _ | apply Drawn0.step)⟩

/-! ### impl_spreadOf: function 36 -/
theorem impl_spreadOf.results_cell {P : Program} {fn : Func} {u : Tmp} {ty : TypeId} (h : fn.results = #[.cell u ty]) (tmps : Array Value) (w : World) (b : Nat) (ht : tmps.getD u undef = .pointer (some ⟨b, 0, none⟩)) (cs : Array Value) (t : TypeId) (fr : Nat × Nat) (hg : w.heap[b]? = some (.cells cs t fr))
    (hu : (P.underlying ty).map (fun d => match d with | .struct _ | .array _ _ => true | _ => false) = some true) (hi : (P.info? ty).map (·.size) = some cs.size) : (results fn tmps).run P w = .ok (.agg cs) w := by
  obtain ⟨d, hd, hd2⟩ := Option.map_eq_some_iff.1 hu
  have h1 := run_loadVar_row w b t ty cs fr d hg hd (by cases d <;> simp_all) hi
  have ht' : tmps[u]?.getD undef = .pointer (some ⟨b, 0, none⟩) := by simpa using ht
  simp [results, h, ht', asAddr, h1, Sem.run_bind]
theorem impl_spreadOf.calls (fr : Int) (A : Option Addr) (n cc : Nat) (w : World) : Calls Try.prog 36 #[.int .i64 fr, .slice A n cc] w fun e w' => ∃ b, e = .returned (.agg #[.int .i64 fr, .slice A n cc, .map (some b)]) ∧ w.heap.size ≤ b ∧ w'.heap[b]? = some (.map #[] 0) ∧ Below w.heap.size w w' := by
  have hmm := @run_makeMap Try.prog
  go_enter Try.func36, Try.ntmps36
  go_wp2
  clear hmm
  refine bodyPost_ret (v := .agg #[.int .i64 fr, .slice A n cc, .map (some (w.heap.size + 1))]) ?_ rfl ?_
  · have h0 := heap_alloc_new w (.cells #[.int .i64 fr, .slice A n cc, .map (some (w.heap.size + 1))] 61)
    have h1 := heap_alloc_old (w.alloc (.cells #[.int .i64 fr, .slice A n cc, .map (some (w.heap.size + 1))] 61)) (.map #[] 0) (r := w.heap.size) (by simp)
    exact impl_spreadOf.results_cell rfl _ _ w.heap.size rfl _ _ _ (h1.trans h0) (by kernel_rfl) (by kernel_rfl)
  · refine ⟨w.heap.size + 1, rfl, by omega, ?_, below_alloc (below_alloc (Below.refl _ _) _) _⟩
    have h := heap_alloc_new (w.alloc (.cells #[.int .i64 fr, .slice A n cc, .map (some (w.heap.size + 1))] 61)) (.map #[] 0)
    rw [show (w.alloc (.cells #[.int .i64 fr, .slice A n cc, .map (some (w.heap.size + 1))] 61)).heap.size = w.heap.size + 1 by simp] at h
    exact h


-- NOT PRINTED: function 69 (impl_Call_69)

-- NOT PRINTED: function 53 (impl_Call_53)

/-! ### impl_Call_54: function 54 -/
def impl_Call_54.f (l0 : List (S54)) : Option (List (S54)) := if l0.length < 8796093022208 then some l0 else none
theorem impl_Call_54.none_ {w : World} {n : Nat} {l0 : List (S54)} (h : Kd.C k54 w none n l0) : n = 0 := by
  rcases Nat.eq_zero_or_pos n with e | e
  · exact e
  · obtain ⟨ad, h1, _⟩ := h.2.2 e
    cases h1
set_option maxRecDepth 100000 in
theorem impl_Call_54.calls (A0 : Option Addr) (c0 : Nat) (l0 : List (S54)) (r : List (S54)) (w : World) (hr0 : Kd.C k54 w A0 l0.length l0) (hc0 : l0.length ≤ c0) (h : impl_Call_54.f l0 = some r) :
    Calls Try.prog 54 #[.slice A0 l0.length c0] w fun e w' => ∃ v0_ : Value, e = .returned (v0_) ∧ Kd.R k54 54 w' w.heap.size (fun _ => True) v0_ r ∧ Below w.heap.size w w' := by
  unfold impl_Call_54.f at h
  split at h
  case isFalse => cases h
  rename_i hlim
  obtain rfl := Option.some.inj h
  have LM := Aside0.mk hlim
  have HR0 := Aside0.mk hr0
  have HC0 := Aside0.mk hc0
  have HB := Aside0.mk (Below.refl w.heap.size w)
  clear h hlim hr0 hc0
  cases A0 with
  | none =>
    have h0 := impl_Call_54.none_ HR0.out
    obtain rfl := List.eq_nil_of_length_eq_zero h0
    clear h0
    have he : ∀ w : World, (binOp .eql 26 (.slice none 0 c0) (.slice none 0 0)).run Try.prog w = .ok (.bool true) w := fun _ => rfl
    go_enter Try.func54, Try.ntmps54
    go_wp2
    go_ret
    exact ⟨_, rfl, Kd.R_nil _ _ _ _ _, HB.out⟩
  | some ad =>
    have he : ∀ w : World, (binOp .eql 26 (.slice (some ad) l0.length c0) (.slice none 0 0)).run Try.prog w = .ok (.bool false) w := fun _ => rfl
    go_enter Try.func54, Try.ntmps54
    go_wp2_with (first | ((with_reducible refine gate_dst (N := 5) rfl ?_); refine Kd.R_lit k54 _ 54 ?hg (N := 5) ?hd (xs := ([] : List (S54))) (inner := []) (ok := fun _ => True) (okp := fun _ => True) ?hr ?hp (fun _ hk => hk) trivial (Below.refl _ _) (Nat.le_refl _) (by simp) ?_; (case hd => rfl); (case hg => rfl); (case hr => first | (go_simp; done) | (go_simp; rfl)); (case hp => exact (Reps.none _ _)); intro v1 w3 ho4 hb hg_ hnew_; clear hg_ hnew_; have n0_ := Aside0.mk (Kd.R_lower ho4 (below_size (by repeat (first | (with_reducible first | exact HB.out | apply below_alloc | apply pw_below_drewN | apply below_drew1) | exact HB.out)))); have n1_ := Aside0.mk (below_step (by repeat (first | (with_reducible first | exact HB.out | apply below_alloc | apply pw_below_drewN | apply below_drew1) | exact HB.out)) hb); clear HB; have HO1 := n0_; have HB := n1_; clear n0_ n1_; clear hb ho4) | ((with_reducible refine gate_builtin (b := .append) (xs := #[.tmp 5, .tmp 6]) rfl ?_); at_builtin; refine Kd.R_append_rows k54 (w0 := w) w.heap.size rfl (.tmp 5) (.tmp 6) 26 54 (.agg #[(.int .i64 0), (.int .i64 0)]) 16 rfl Try.underlying26 info54 rfl (by decide) (by omega) v1 [] l0 _ _ _ (fun _ => True) (fun _ => False) rfl rfl ?aO ?aR (fun _ _ h => h) (fun _ h => h.elim) ?aF ?aB ?aS ?aL ?_; (case aR => repeat (first | exact (Kd.C_below HR0.out HB.out) | (with_reducible refine Kd.C_alloc ?_ _) | (with_reducible refine Kd.C_drewN ?_ _) | (with_reducible refine Kd.C_drew ?_))); (case aB => exact (by repeat (first | (with_reducible first | exact HB.out | apply below_alloc | apply pw_below_drewN | apply below_drew1) | exact HB.out))); (case aF => exact (fun _ _ => trivial)); (case aO => exact (by (with_reducible repeat (first | apply Kd.R_alloc | apply Kd.R_drewN | apply Kd.R_drew)); exact HO1.out)); (case aS => exact (below_size (by repeat (first | (with_reducible first | exact HB.out | apply below_alloc | apply pw_below_drewN | apply below_drew1) | exact HB.out)))); (case aL => have := LM.out; simp only [List.length_nil]; omega); intro v2 w5 ho hb hg hat; rw [List.nil_append] at ho; have n0_ := Aside0.mk (hb); have n1_ := Aside0.mk (ho); clear HB; clear HO1; have HB := n0_; have HO2 := n1_; clear n0_ n1_; clear ho hb hg hat))
    go_ret
    exact ⟨_, rfl, by (with_reducible repeat (first | apply Kd.R_alloc | apply Kd.R_drewN | apply Kd.R_drew)); exact HO2.out, by repeat (first | (with_reducible first | exact HB.out | apply below_alloc | apply pw_below_drewN | apply below_drew1) | exact HB.out)⟩


-- NOT PRINTED: function 55 (impl_spread_rounds_1)

-- NOT PRINTED: function 70 (impl_matchings_1)

/-! ### impl_matchings: function 56 -/
/-- Both friends of a call, as bits. -/
def impl_matchings.own (c : S54) : Int := Go.bits .or .u16 (shl .u16 1 c.f0) (shl .u16 1 c.f1)
/-- All rounds that begin so, and go on. -/
def impl_matchings.addT : List S54 → List S54 → Int → List (List S54)
  | [], _, _ => []
  | c :: cs, pre, seen => (if Go.bits .and .u16 seen (impl_matchings.own c) = 0 then (pre ++ [c]) :: impl_matchings.addT cs (pre ++ [c]) (Go.bits .or .u16 seen (impl_matchings.own c)) else []) ++ impl_matchings.addT cs pre seen
def impl_matchings.all (l : List S54) : List (List S54) := [] :: impl_matchings.addT l [] 0
def impl_matchings.T6 : Bool × List (List Nat × List Nat) := (true, [([], []), ([], []), ([1], [1]), ([], []), ([], []), ([3, 4], [3, 4]), ([5], [5]), ([6], [6]), ([2, 7, 2], [2, 7]), ([], []), ([9], [9]), ([], []), ([], []), ([11, 12], [11, 12]), ([0, 8, 10, 13, 8], [0, 8, 10, 13])])
def impl_matchings.B6 : List Nat := [0, 0, 2, 0, 0, 24, 56, 120, 254, 0, 512, 0, 0, 6144, 16383]
theorem impl_matchings.tab6 : rtab .any (opsOf Try.f70 6) = impl_matchings.T6 := by kernel_rfl
theorem impl_matchings.bits6 : waitsOk impl_matchings.T6.2 impl_matchings.B6 = true := by kernel_rfl
/-- A row of calls is none of what a row of rows lies in. -/
theorem impl_matchings.apart {w : World} {base b2 : Nat} {ok ok2 : Nat → Prop} {u V : Value} {l : List S54} {O : List (List S54)} (h : Kd.R k54 54 w base ok u l) (hS : Kd.S (Kd.slice 54 k54) 26 w b2 ok2 V O) (k : Nat) (hk : some k = u.ownBlock) : some k ≠ V.ownBlock := by
  intro he
  obtain ⟨_, inner, ho, _⟩ := h
  obtain ⟨c1, h1⟩ := own_typed ho k hk.symm
  obtain ⟨c2, h2⟩ := Kd.S_typed hS k he.symm
  rw [h1] at h2
  injection h2 with h2
  injection h2 with _ h2
  exact absurd h2 (by decide)
theorem impl_matchings.row_kept {w w' : World} {base b2 bo : Nat} {ok ok2 : Nat → Prop} {u V : Value} {l : List S54} {O : List (List S54)} (h : Kd.R k54 54 w base ok u l) (hS : Kd.S (Kd.slice 54 k54) 26 w b2 ok2 V O) (hbo : ∀ k, some k = u.ownBlock → k ≠ bo) (hk : Kept w w' (fun k => k = bo ∨ some k = V.ownBlock)) : Kd.R k54 54 w' base (fun k => some k = u.ownBlock) u l :=
  Kd.R_kept (Kd.R_tight rfl h) hk (fun k hku hs => by
    rcases hs with hs | hs
    · exact hbo k hku hs
    · exact impl_matchings.apart h hS k hku hs)
/-- The boxes, and what they hold. -/
structure impl_matchings.Fr (bo bc ba : Nat) (A : Option Addr) (n cc : Nat) (W : World) : Prop where
  fc : W.cell? ⟨bc, 0, none⟩ = some (.slice A n cc)
  fa : W.cell? ⟨ba, 0, none⟩ = some (.func (.func 70) #[] #[.pointer (some ⟨bo, 0, none⟩), .pointer (some ⟨bc, 0, none⟩), .pointer (some ⟨ba, 0, none⟩)])
theorem impl_matchings.Fr.kept {bo bc ba n cc : Nat} {A : Option Addr} {W W' : World} {K : Nat → Prop} (h : impl_matchings.Fr bo bc ba A n cc W) (hk : Kept W W' K) (h1 : ¬ K bc) (h2 : ¬ K ba) : impl_matchings.Fr bo bc ba A n cc W' := by
  constructor
  · have := hk.2 bc (World.block_lt_of_cell? W _ h.fc) h1
    have h3 := h.fc
    simp only [World.cell?] at h3 ⊢
    rw [this]
    exact h3
  · have := hk.2 ba (World.block_lt_of_cell? W _ h.fa) h2
    have h3 := h.fa
    simp only [World.cell?] at h3 ⊢
    rw [this]
    exact h3
theorem impl_matchings.cell_at {W W' : World} {b j : Nat} {v : Value} (h : W.cell? ⟨b, j, none⟩ = some v) (e : W'.heap[b]? = W.heap[b]?) : W'.cell? ⟨b, j, none⟩ = some v := by
  simp only [World.cell?] at h ⊢
  rw [e]
  exact h
theorem impl_matchings.froz_at {W W' : World} {b j : Nat} {v : Bool} (h : W.frozen? ⟨b, j, none⟩ = v) (e : W'.heap[b]? = W.heap[b]?) : W'.frozen? ⟨b, j, none⟩ = v := by
  simp only [World.frozen?] at h ⊢
  rw [e]
  exact h
/-- What is in the row of rows. -/
structure impl_matchings.Out (bo bc ba base : Nat) (w0 : World) (V : Value) (O : List (List S54)) (W : World) : Prop where
  cell : W.cell? ⟨bo, 0, none⟩ = some V
  froz : W.frozen? ⟨bo, 0, none⟩ = false
  row : Kd.S (Kd.slice 54 k54) 26 W base (fun k => k ≠ bo ∧ k ≠ bc ∧ k ≠ ba) V O
  below : Below base w0 W
  size : base ≤ W.heap.size
theorem impl_matchings.Out.lift {bo bc ba base : Nat} {w0 W W' : World} {V : Value} {O : List (List S54)} (h : impl_matchings.Out bo bc ba base w0 V O W) (hb : Below W.heap.size W W') : impl_matchings.Out bo bc ba base w0 V O W' :=
  ⟨(hb.cell (p := ⟨bo, 0, none⟩) (World.block_lt_of_cell? W _ h.cell)).trans h.cell, impl_matchings.froz_at h.froz (hb.block bo (World.block_lt_of_cell? W _ h.cell)), Kd.S_below h.row hb, h.below.trans (hb.mono h.size), Nat.le_trans h.size hb.size⟩
set_option maxHeartbeats 8000000 in
set_option maxRecDepth 100000 in
theorem impl_matchings.add (calls : List S54) (hcl : calls.length ≤ 1000) (hcn : ∀ x ∈ calls, 0 ≤ x.f0 ∧ 0 ≤ x.f1) (A : Option Addr) (cc bo bc ba base bR : Nat) (w0 : World) (hbc : bo ≠ bc) (hba : bo ≠ ba) (hb0 : base ≤ bo) :
    ∀ (m i : Nat) (pre : List S54) (seen : Int) (v V : Value) (O : List (List S54)) (W : World), i + m = calls.length → pre.length ≤ i → O.length + (1 + (impl_matchings.addT (calls.drop i) pre seen).length) ≤ 1000000000 →
      impl_matchings.Fr bo bc ba A calls.length cc W → impl_matchings.Out bo bc ba base w0 V O W → (∀ k, some k = v.ownBlock → k ≠ bo ∧ k ≠ bc ∧ k ≠ ba) → Kd.R k54 54 W bR (fun _ => True) (.slice A calls.length cc) calls → (∀ k, some k = (Value.slice A calls.length cc).ownBlock → k ≠ bo) →
      Kd.R k54 54 W base (fun k => some k = v.ownBlock) v pre → Kd.S (Kd.slice 54 k54) 26 W base (fun k => (k ≠ bo ∧ k ≠ bc ∧ k ≠ ba) ∧ ¬ some k = v.ownBlock) V O →
      Calls Try.prog 70 #[v, .int .i64 (i : Int), .int .u16 seen, .pointer (some ⟨bo, 0, none⟩), .pointer (some ⟨bc, 0, none⟩), .pointer (some ⟨ba, 0, none⟩)] W fun e w' => e = .returned (.tuple #[]) ∧ ∃ V', impl_matchings.Out bo bc ba base w0 V' (O ++ pre :: impl_matchings.addT (calls.drop i) pre seen) w' ∧ Kept W w' (fun k => k = bo ∨ some k = V.ownBlock) ∧ (V'.ownBlock = V.ownBlock ∨ ∃ b, V'.ownBlock = some b ∧ W.heap.size ≤ b) := by
  intro m
  induction m using Nat.strongRecOn with
  | _ m ih =>
  intro i pre seen v V O W him hpl hbd hF hO hvk hRc hck hRv hS
  obtain ⟨Av, cv, rfl⟩ := Kd.R_slice hRv
  have hu := Try.underlying54
  have fo := hO.cell
  have ff := hO.froz
  have hval : ∀ k, some k = (Value.slice Av pre.length cv).ownBlock → (k ≠ bo ∧ k ≠ bc ∧ k ≠ ba) ∧ some k ≠ V.ownBlock := fun k hk => ⟨hvk k hk, impl_matchings.apart hRv hS k hk⟩
  have hfresh : ∀ k, W.heap.size ≤ k → k ≠ bo ∧ k ≠ bc ∧ k ≠ ba := fun k hk => by
    have h1 := World.block_lt_of_cell? W _ fo
    have h2 := World.block_lt_of_cell? W _ hF.fc
    have h3 := World.block_lt_of_cell? W _ hF.fa
    simp only at h1 h2 h3
    omega
  have hobV : some bo ≠ V.ownBlock := fun he => (hO.row.choose_spec.1 bo he.symm).1 rfl
  have HF := Aside0.mk hF
  have HO := Aside0.mk hO
  have HVAL := Aside0.mk hval
  have HFR := Aside0.mk hfresh
  have HOB := Aside0.mk hobV
  have HRC := Aside0.mk hRc
  have HCK := Aside0.mk hck
  have HRV := Aside0.mk hRv
  have HS := Aside0.mk hS
  have HIM := Aside0.mk him
  have HPL := Aside0.mk hpl
  have HBD := Aside0.mk hbd
  have HVK := Aside0.mk hvk
  clear hF hO hval hfresh hobV hRc hck hRv hS him hpl hbd hvk
  go_enter Try.func70, Try.ntmps70
  go_wp2_with ((with_reducible refine gate_builtin (b := .append) (xs := #[.tmp 11, .tmp 13]) rfl ?_); at_builtin; refine Kd.S_append (Kd.slice 54 k54) (w0 := w0) base rfl (.tmp 11) (.tmp 13) 37 26 (.slice none 0 0) 24 rfl Try.underlying37 info26 rfl (by decide) (by omega) V O pre [.slice Av pre.length cv] (fun k => k ≠ bo ∧ k ≠ bc ∧ k ≠ ba) (fun k => some k = (Value.slice Av pre.length cv).ownBlock) rfl rfl ⟨_, rfl, HRV.out⟩ HVAL.out HFR.out HS.out HO.out.below HO.out.size (by have := HBD.out; omega) ?_; intro V1 w1 hS1 hB1 hg1 hat1; obtain ⟨A1, c1, rfl, _⟩ := Kd.S_reads hS1; have hc1 := impl_matchings.cell_at fo (hg1.block bo (World.block_lt_of_cell? W _ fo) HOB.out); have hf1 := impl_matchings.froz_at ff (hg1.block bo (World.block_lt_of_cell? W _ fo) HOB.out))
  rw [show (O ++ [pre]).length = O.length + 1 by simp] at hS1
  rw [show (O ++ [pre]).length = O.length + 1 by simp] at hat1
  have HG := Aside0.mk (show bo < W.heap.size from World.block_lt_of_cell? W _ fo)
  obtain ⟨w2, hw2⟩ : ∃ w2, w2 = w1.setCell ⟨bo, 0, none⟩ (.slice A1 (O.length + 1) c1) := ⟨_, rfl⟩
  have hfar : ∀ k, k ≠ bo → w2.heap[k]? = w1.heap[k]? := fun k hk => by rw [hw2]; exact Below.heap_setCell w1 ⟨bo, 0, none⟩ _ k hk
  have K2 := Aside0.mk (show Kept W w2 (fun k => k = bo ∨ some k = V.ownBlock) from ⟨by rw [hw2]; simpa using hg1.size, fun k hk hn => by
    rw [not_or] at hn
    rw [hfar k hn.1]
    exact hg1.block k hk hn.2⟩)
  have O2 : Aside0 (impl_matchings.Out bo bc ba base w0 (.slice A1 (O.length + 1) c1) (O ++ [pre]) w2) := ⟨by
    refine ⟨by rw [hw2]; exact World.cell?_setCell_same _ _ _ (by rw [hc1]), by rw [hw2]; simpa [World.frozen?_setCell] using hf1, ?_, by rw [hw2]; exact hB1.setCell hb0 _, ?_⟩
    · rw [hw2]
      exact Kd.S_far hS1 (fun k hk => hk.1) _
    · rw [hw2]
      have := hB1.size
      simp
      have h2 := HO.out.size
      have h3 := hg1.size
      omega⟩
  rw [← hw2]
  clear hw2 hfar hc1 hf1 hg1 hS1 hB1
  have AT := Aside0.mk hat1
  clear hat1
  go_loopg [9] (calls.length + 1) (fun gg v9 wr => ∃ (j : Nat) (VV : Value) (OO : List (List S54)), v9 = .int .i64 (j : Int) ∧ Aside0 (i ≤ j ∧ j ≤ calls.length ∧ calls.length + 1 - j ≤ gg) ∧ Aside0 (OO ++ impl_matchings.addT (calls.drop j) pre seen = O ++ pre :: impl_matchings.addT (calls.drop i) pre seen) ∧ Aside0 (impl_matchings.Out bo bc ba base w0 VV OO wr) ∧ Aside0 (Kept W wr (fun k => k = bo ∨ some k = V.ownBlock)) ∧ Aside0 (VV.ownBlock = V.ownBlock ∨ ∃ b, VV.ownBlock = some b ∧ W.heap.size ≤ b))
  case atStart => exact ⟨i, .slice A1 (O.length + 1) c1, O ++ [pre], rfl, ⟨by omega, by have := HIM.out; omega, by have := HIM.out; omega⟩, ⟨by simp⟩, O2, K2, AT⟩
  case round =>
    clear O2 K2 AT fo ff
    obtain ⟨j, VV, OO, rfl, HX, HE, HOO, HK, HAT⟩ := hrel
    have nbc : ¬ (bc = bo ∨ some bc = V.ownBlock) := fun h => by
      rcases h with h | h
      · exact hbc h.symm
      · exact (HO.out.row.choose_spec.1 bc h.symm).2.1 rfl
    have nba : ¬ (ba = bo ∨ some ba = V.ownBlock) := fun h => by
      rcases h with h | h
      · exact hba h.symm
      · exact (HO.out.row.choose_spec.1 ba h.symm).2.2 rfl
    have F2 := HF.out.kept HK.out nbc nba
    have HRC2 := Aside0.mk (impl_matchings.row_kept HRC.out HO.out.row HCK.out HK.out)
    have HRV2 := Aside0.mk (impl_matchings.row_kept HRV.out HO.out.row (fun k hk => (HVAL.out k hk).1.1) HK.out)
    have fc := F2.fc
    have fa := F2.fa
    have HF2 := Aside0.mk F2
    clear F2 nbc nba
    by_cases hlt : j < calls.length
    · obtain ⟨x, hx⟩ : ∃ x, calls[j]? = some x := ⟨_, List.getElem?_eq_getElem hlt⟩
      have hxm : x ∈ calls := List.mem_of_getElem? hx
      have hrd : rd_T54 calls (j : Int) = x := by unfold rd_T54; simp [List.getD_eq_getElem?_getD, hx]
      obtain ⟨ad, hA, hx0, hx1⟩ := at_T54 (Kd.R_reads' HRC2.out).2.2 (j : Int) (by omega) (by omega)
      rw [hrd, Int.toNat_natCast] at hx0 hx1
      subst hA
      have hdr : calls.drop j = x :: calls.drop (j + 1) := by
        rw [List.drop_eq_getElem_cons hlt]
        rw [List.getElem?_eq_getElem hlt] at hx
        rw [Option.some.inj hx]
      have HDR := Aside0.mk hdr
      have d1 : decide ((j : Int) < (calls.length : Int)) = true := decide_eq_true (by omega)
      have d2 : ((j : Int) < (calls.length : Int)) = True := eq_true (by omega)
      have n0 : decide (0 ≤ x.f0) = true := decide_eq_true (hcn x hxm).1
      have n1 : decide (0 ≤ x.f1) = true := decide_eq_true (hcn x hxm).2
      have n2 : (0 ≤ x.f0) = True := eq_true (hcn x hxm).1
      have n3 : (0 ≤ x.f1) = True := eq_true (hcn x hxm).2
      obtain ⟨s0, hs0⟩ : ∃ s0, IntKind.u16.wrap (2 ^ min x.f0.toNat 16) = s0 := ⟨_, rfl⟩
      obtain ⟨s1, hs1⟩ : ∃ s1, IntKind.u16.wrap (2 ^ min x.f1.toNat 16) = s1 := ⟨_, rfl⟩
      obtain ⟨ow, how⟩ : ∃ ow, Go.bits .or .u16 s0 s1 = ow := ⟨_, rfl⟩
      have HOW := Aside0.mk (show impl_matchings.own x = ow by
        unfold impl_matchings.own shl
        rw [Int.one_mul, Int.one_mul, ← how, ← hs0, ← hs1]
        rfl)
      have HLT := Aside0.mk hlt
      clear hlt hx hxm hrd hdr
      go_wp2_with fail
      go_quiet (fail)
      have BQ := Aside0.mk (show Below wr.heap.size wr (wr.drewN nq) from pw_below_drewN (Below.refl _ _) nq)
      generalize wr.drewN nq = wq at BQ ⊢
      have OQ := Aside0.mk (HOO.out.lift BQ.out)
      have KQ := Aside0.mk (HK.out.below BQ.out)
      have HWJ := Aside0.mk (show wrap64 ((j : Int) + 1) = ((j + 1 : Nat) : Int) by have := HLT.out; unfold wrap64; omega)
      replace fc := (BQ.out.cell (p := ⟨bc, 0, none⟩) (World.block_lt_of_cell? wr _ fc)).trans fc
      replace fa := (BQ.out.cell (p := ⟨ba, 0, none⟩) (World.block_lt_of_cell? wr _ fa)).trans fa
      replace hx0 := (BQ.out.cell (World.block_lt_of_cell? wr _ hx0)).trans hx0
      replace hx1 := (BQ.out.cell (World.block_lt_of_cell? wr _ hx1)).trans hx1
      have RVQ := Aside0.mk (Kd.R_below HRV2.out BQ.out)
      have RCQ := Aside0.mk (Kd.R_below HRC2.out BQ.out)
      have FQ := Aside0.mk (show impl_matchings.Fr bo bc ba (some ad) calls.length cc wq from ⟨fc, fa⟩)
      clear HOO HK HF2 HRC2 HRV2 hs0 hs1 how n0 n1 n2 n3
      by_cases hz : Go.bits .and .u16 seen ow = 0
      · have z1 : (Go.bits .and .u16 seen ow == 0) = true := beq_iff_eq.mpr hz
        have HZ := Aside0.mk hz
        clear hz
        go_wp2
        have BD := Aside0.mk (below_drew1 (Below.refl wq.heap.size wq))
        refine start_ (n := 15) (S := fun w' => (w'.cell? ⟨ba, 0, none⟩ = some (.func (.func 70) #[] #[.pointer (some ⟨bo, 0, none⟩), .pointer (some ⟨bc, 0, none⟩), .pointer (some ⟨ba, 0, none⟩)]) ∧ w'.cell? ⟨bc, 0, none⟩ = some (.slice (some ad) calls.length cc) ∧ w'.cell? (ad.add (j * 2)) = some (.int .i64 x.f0) ∧ w'.cell? ⟨(ad.add (j * 2)).block, (ad.add (j * 2)).off + 1, none⟩ = some (.int .i64 x.f1))) (ds := [14]) #[false, false, false, false, false, false, false, false, false, false, false, false, false, false, false] (by kernel_rfl) rfl rfl ⟨fa, fc, hx0, hx1⟩ (fun hHeld => ?_); refine with_tabW impl_matchings.tab6 impl_matchings.bits6 (fun HT_ HW_ => ?_)
        generalize wq.drew = wd at BD hHeld ⊢
        refine pure_ (i := 1) (N := some 40) (v := ?_) (a' := ?_) #[false, true, false, false, false, false, false, false, false, false, false, false, false, false, false] rfl rfl (any_of HT_.out (by kernel_rfl)) (fun _ _ _ h => h) (Or.inl ⟨by rfl, ?_⟩) ?_ ?_
        rotate_left
        · intro w'
          go_simp
          with_reducible rfl
        rotate_left
        · simp only [Act.put, List.setIfInBounds_toArray, List.set_cons_zero, List.set_cons_succ, i64_w, i32_w]
          rfl
        refine pure_ (i := 4) (N := some 43) (v := ?_) (a' := ?_) #[false, true, false, false, true, false, false, false, false, false, false, false, false, false, false] rfl rfl (any_of HT_.out (by kernel_rfl)) (fun _ _ _ h => h) (Or.inl ⟨by rfl, ?_⟩) ?_ ?_
        rotate_left
        · intro w'
          go_simp
          with_reducible rfl
        rotate_left
        · simp only [Act.put, List.setIfInBounds_toArray, List.set_cons_zero, List.set_cons_succ, i64_w, i32_w]
          rfl
        refine pure_ (i := 9) (N := some 48) (v := ?_) (a' := ?_) #[false, true, false, false, true, false, false, false, false, true, false, false, false, false, false] rfl rfl (any_of HT_.out (by kernel_rfl)) (fun _ _ _ h => h) (Or.inl ⟨by rfl, ?_⟩) ?_ ?_
        rotate_left
        · intro w'
          go_simp
          with_reducible rfl
        rotate_left
        · simp only [Act.put, List.setIfInBounds_toArray, List.set_cons_zero, List.set_cons_succ, i64_w, i32_w]
          rfl
        refine pure_ (i := 10) (N := some 49) (v := ?_) (a' := ?_) #[false, true, false, false, true, false, false, false, false, true, true, false, false, false, false] rfl rfl (any_of HT_.out (by kernel_rfl)) (fun _ _ _ h => h) (Or.inl ⟨by rfl, ?_⟩) ?_ ?_
        rotate_left
        · intro w'
          go_simp
          with_reducible rfl
        rotate_left
        · simp only [Act.put, List.setIfInBounds_toArray, List.set_cons_zero, List.set_cons_succ, i64_w, i32_w]
          rfl
        refine pure_ (i := 11) (N := some 50) (v := ?_) (a' := ?_) #[false, true, false, false, true, false, false, false, false, true, true, true, false, false, false] rfl rfl (any_of HT_.out (by kernel_rfl)) (fun _ _ _ h => h) (Or.inl ⟨by rfl, ?_⟩) ?_ ?_
        rotate_left
        · intro w'
          go_simp
          with_reducible rfl
        rotate_left
        · simp only [Act.put, List.setIfInBounds_toArray, List.set_cons_zero, List.set_cons_succ, i64_w, i32_w]
          rfl
        refine pure_ (i := 12) (N := some 51) (v := ?_) (a' := ?_) #[false, true, false, false, true, false, false, false, false, true, true, true, true, false, false] rfl rfl (any_of HT_.out (by kernel_rfl)) (fun _ _ _ h => h) (Or.inl ⟨by rfl, ?_⟩) ?_ ?_
        rotate_left
        · intro w'
          go_simp
          with_reducible rfl
        rotate_left
        · simp only [Act.put, List.setIfInBounds_toArray, List.set_cons_zero, List.set_cons_succ, i64_w, i32_w]
          rfl
        refine pure_ (i := 13) (N := some 52) (v := ?_) (a' := ?_) #[false, true, false, false, true, false, false, false, false, true, true, true, true, true, false] rfl rfl (any_of HT_.out (by kernel_rfl)) (fun _ _ _ h => h) (Or.inl ⟨by rfl, ?_⟩) ?_ ?_
        rotate_left
        · intro w'
          go_simp
          with_reducible rfl
        rotate_left
        · simp only [Act.put, List.setIfInBounds_toArray, List.set_cons_zero, List.set_cons_succ, i64_w, i32_w]
          rfl
        refine take_ (i := 0) (N := some 39) (v := ?_) (a' := ?_) #[true, true, false, false, true, false, false, false, false, true, true, true, true, true, false] rfl rfl (take_ofW HT_.out HW_.out (by kernel_rfl)) (fun _ _ _ h => h) (Or.inl ⟨by rfl, ?_⟩) hHeld ?_ ?_
        rotate_left
        · rintro w' ⟨s0, s1, s2, s3⟩
          go_simp
          with_reducible rfl
        rotate_left
        · simp only [Act.put, List.setIfInBounds_toArray, List.set_cons_zero, List.set_cons_succ, i64_w, i32_w]
          rfl
        refine take_ (i := 3) (N := some 42) (v := ?_) (a' := ?_) #[true, true, false, true, true, false, false, false, false, true, true, true, true, true, false] rfl rfl (take_ofW HT_.out HW_.out (by kernel_rfl)) (fun _ _ _ h => h) (Or.inl ⟨by rfl, ?_⟩) hHeld ?_ ?_
        rotate_left
        · rintro w' ⟨s0, s1, s2, s3⟩
          go_simp
          with_reducible rfl
        rotate_left
        · simp only [Act.put, List.setIfInBounds_toArray, List.set_cons_zero, List.set_cons_succ, i64_w, i32_w]
          rfl
        refine pure_ (i := 5) (N := some 44) (v := ?_) (a' := ?_) #[true, true, false, true, true, true, false, false, false, true, true, true, true, true, false] rfl rfl (any_of HT_.out (by kernel_rfl)) (fun _ _ _ h => h) (Or.inl ⟨by rfl, ?_⟩) ?_ ?_
        rotate_left
        · intro w'
          go_simp
          with_reducible rfl
        rotate_left
        · simp only [Act.put, List.setIfInBounds_toArray, List.set_cons_zero, List.set_cons_succ, i64_w, i32_w]
          rfl
        refine take_ (i := 6) (N := some 45) (v := ?_) (a' := ?_) #[true, true, false, true, true, true, true, false, false, true, true, true, true, true, false] rfl rfl (take_ofW HT_.out HW_.out (by kernel_rfl)) (fun _ _ _ h => h) (Or.inl ⟨by rfl, ?_⟩) hHeld ?_ ?_
        rotate_left
        · rintro w' ⟨s0, s1, s2, s3⟩
          go_simp
          with_reducible rfl
        rotate_left
        · simp only [Act.put, List.setIfInBounds_toArray, List.set_cons_zero, List.set_cons_succ, i64_w, i32_w]
          rfl
        refine join_ (σ := Value × Value) 2 #[true, true, true, true, true, true, true, true, false, true, true, true, true, true, false] (fun s_ => [(41, s_.1), (46, s_.2)]) (fun s_ w' => (w'.cell? ⟨ba, 0, none⟩ = some (.func (.func 70) #[] #[.pointer (some ⟨bo, 0, none⟩), .pointer (some ⟨bc, 0, none⟩), .pointer (some ⟨ba, 0, none⟩)]) ∧ w'.cell? ⟨bc, 0, none⟩ = some (.slice (some ad) calls.length cc) ∧ w'.cell? (ad.add (j * 2)) = some (.int .i64 x.f0) ∧ w'.cell? ⟨(ad.add (j * 2)).block, (ad.add (j * 2)).off + 1, none⟩ = some (.int .i64 x.f1)) ∧ Kd.R k54 54 w' wq.heap.size (fun _ => True) s_.1 pre ∧ (∃ (A25 : Option Addr) (c25 : Nat), s_.2 = .slice A25 1 c25 ∧ Kd.C k54 w' A25 1 [x]) ∧ Below wq.heap.size wq w') ?_ ?_
        rotate_left
        · intro hCont
          refine two_ (i := 2) (j := 7) (Ni := some 41) (Nj := some 46) #[true, true, true, true, true, true, true, false, false, true, true, true, true, true, false] #[true, true, false, true, true, true, true, true, false, true, true, true, true, true, false] rfl rfl rfl rfl (two_of HT_.out (by kernel_rfl)) (by decide) (by decide) (fun K hK => ?_) (fun K hK => ?_)
          · skip
            refine goes_ Try.func54 (by kernel_rfl) rfl #[.slice Av pre.length cv] (by rfl) rfl rfl (by (try simp only [List.map_toArray, List.map_cons, List.map_nil]); rfl) ?_
            refine (impl_Call_54.calls Av cv pre pre wd (Kd.C_below (Kd.R_reads' RVQ.out).2.2 BD.out) (Kd.R_reads' RVQ.out).2.1 (by unfold impl_Call_54.f; rw [if_pos (by have := HPL.out; have := HX.out; omega)])).mono ?_
            rintro e w2 ⟨v23, rfl, hv, hb⟩
            refine ⟨_, rfl, ?_⟩
            have B2 := Aside0.mk (below_step BD.out hb)
            have S2 := Aside0.mk (show (w2.cell? ⟨ba, 0, none⟩ = some (.func (.func 70) #[] #[.pointer (some ⟨bo, 0, none⟩), .pointer (some ⟨bc, 0, none⟩), .pointer (some ⟨ba, 0, none⟩)]) ∧ w2.cell? ⟨bc, 0, none⟩ = some (.slice (some ad) calls.length cc) ∧ w2.cell? (ad.add (j * 2)) = some (.int .i64 x.f0) ∧ w2.cell? ⟨(ad.add (j * 2)).block, (ad.add (j * 2)).off + 1, none⟩ = some (.int .i64 x.f1)) from ⟨(hb.cell (World.block_lt_of_cell? _ _ hHeld.1)).trans hHeld.1, (hb.cell (World.block_lt_of_cell? _ _ hHeld.2.1)).trans hHeld.2.1, (hb.cell (World.block_lt_of_cell? _ _ hHeld.2.2.1)).trans hHeld.2.2.1, (hb.cell (World.block_lt_of_cell? _ _ hHeld.2.2.2)).trans hHeld.2.2.2⟩)
            have R2 := Aside0.mk (Kd.R_lower hv BD.out.size)
            clear hv hb
            refine hK.out _ _ S2.out (fun hHeld => ?_)
            clear hK K
            refine norm_ (a' := ?_) ?_ ?_
            rotate_left
            · show Act.put _ (some 41) _ = _
              simp only [Act.put, List.setIfInBounds_toArray, List.set_cons_zero, List.set_cons_succ, i64_w, i32_w]
              rfl
            refine one_ (i := 7) (N := some 46) #[true, true, true, true, true, true, true, true, false, true, true, true, true, true, false] rfl rfl (one_of HT_.out (by kernel_rfl)) (by decide) (fun K hK => ?_)
            refine Kd.R_lit_step k54 _ 54 ?hg (N := 46) ?hd (xs := [x]) (inner := [.int .i64 x.f0, .int .i64 x.f1]) (ok := fun _ => True) (okp := fun _ => True) ?hr ?hp (fun _ hk => hk) trivial (Below.refl _ _) (Nat.le_refl _) (by simp) ?_; (case hd => rfl); (case hg => rfl); (case hr => first | (go_simp; done) | (go_simp; rfl)); (case hp => exact (Reps.c2 (show Kd.M k54 _ _ _ x [.int .i64 x.f0, .int .i64 x.f1] from (k54_mkM _ _ _ x)) (Reps.none _ _)))
            intro v25 w3 ho hb hg_ hnew_
            clear hg_ hnew_
            have B3 := below_step B2.out hb
            have S3 := Aside0.mk (show (w3.cell? ⟨ba, 0, none⟩ = some (.func (.func 70) #[] #[.pointer (some ⟨bo, 0, none⟩), .pointer (some ⟨bc, 0, none⟩), .pointer (some ⟨ba, 0, none⟩)]) ∧ w3.cell? ⟨bc, 0, none⟩ = some (.slice (some ad) calls.length cc) ∧ w3.cell? (ad.add (j * 2)) = some (.int .i64 x.f0) ∧ w3.cell? ⟨(ad.add (j * 2)).block, (ad.add (j * 2)).off + 1, none⟩ = some (.int .i64 x.f1)) from ⟨(hb.cell (World.block_lt_of_cell? _ _ hHeld.1)).trans hHeld.1, (hb.cell (World.block_lt_of_cell? _ _ hHeld.2.1)).trans hHeld.2.1, (hb.cell (World.block_lt_of_cell? _ _ hHeld.2.2.1)).trans hHeld.2.2.1, (hb.cell (World.block_lt_of_cell? _ _ hHeld.2.2.2)).trans hHeld.2.2.2⟩)
            have R3 := Kd.R_below R2.out hb
            obtain ⟨A25, c25, rfl⟩ := Kd.R_slice ho
            have C3 := (Kd.R_reads' ho).2.2
            refine hK.out _ _ S3.out (fun hHeld => ?_)
            clear hK K
            refine norm_ (a' := ?_) ?_ ?_
            rotate_left
            · show Act.put _ (some 46) _ = _
              simp only [Act.put, List.setIfInBounds_toArray, List.set_cons_zero, List.set_cons_succ, i64_w, i32_w]
              rfl
            exact norm_ (by simp only [putAll, Act.put, List.setIfInBounds_toArray, List.set_cons_zero, List.set_cons_succ]; rfl) (hCont (v23, .slice A25 1 c25) _ ⟨hHeld, R3, ⟨A25, c25, rfl, C3⟩, B3⟩)
          · skip
            refine Kd.R_lit_step k54 _ 54 ?hg (N := 46) ?hd (xs := [x]) (inner := [.int .i64 x.f0, .int .i64 x.f1]) (ok := fun _ => True) (okp := fun _ => True) ?hr ?hp (fun _ hk => hk) trivial (Below.refl _ _) (Nat.le_refl _) (by simp) ?_; (case hd => rfl); (case hg => rfl); (case hr => first | (go_simp; done) | (go_simp; rfl)); (case hp => exact (Reps.c2 (show Kd.M k54 _ _ _ x [.int .i64 x.f0, .int .i64 x.f1] from (k54_mkM _ _ _ x)) (Reps.none _ _)))
            intro v25 w2 ho hb hg_ hnew_
            clear hg_ hnew_
            have B2 := Aside0.mk (below_step BD.out hb)
            have S2 := Aside0.mk (show (w2.cell? ⟨ba, 0, none⟩ = some (.func (.func 70) #[] #[.pointer (some ⟨bo, 0, none⟩), .pointer (some ⟨bc, 0, none⟩), .pointer (some ⟨ba, 0, none⟩)]) ∧ w2.cell? ⟨bc, 0, none⟩ = some (.slice (some ad) calls.length cc) ∧ w2.cell? (ad.add (j * 2)) = some (.int .i64 x.f0) ∧ w2.cell? ⟨(ad.add (j * 2)).block, (ad.add (j * 2)).off + 1, none⟩ = some (.int .i64 x.f1)) from ⟨(hb.cell (World.block_lt_of_cell? _ _ hHeld.1)).trans hHeld.1, (hb.cell (World.block_lt_of_cell? _ _ hHeld.2.1)).trans hHeld.2.1, (hb.cell (World.block_lt_of_cell? _ _ hHeld.2.2.1)).trans hHeld.2.2.1, (hb.cell (World.block_lt_of_cell? _ _ hHeld.2.2.2)).trans hHeld.2.2.2⟩)
            obtain ⟨A25, c25, rfl⟩ := Kd.R_slice ho
            have C2 := Aside0.mk (Kd.R_reads' ho).2.2
            clear ho hb
            refine hK.out _ _ S2.out (fun hHeld => ?_)
            clear hK K
            refine norm_ (a' := ?_) ?_ ?_
            rotate_left
            · show Act.put _ (some 46) _ = _
              simp only [Act.put, List.setIfInBounds_toArray, List.set_cons_zero, List.set_cons_succ, i64_w, i32_w]
              rfl
            refine one_ (i := 2) (N := some 41) #[true, true, true, true, true, true, true, true, false, true, true, true, true, true, false] rfl rfl (one_of HT_.out (by kernel_rfl)) (by decide) (fun K hK => ?_)
            refine goes_ Try.func54 (by kernel_rfl) rfl #[.slice Av pre.length cv] (by rfl) rfl rfl (by (try simp only [List.map_toArray, List.map_cons, List.map_nil]); rfl) ?_
            refine (impl_Call_54.calls Av cv pre pre w2 (Kd.C_below (Kd.R_reads' RVQ.out).2.2 B2.out) (Kd.R_reads' RVQ.out).2.1 (by unfold impl_Call_54.f; rw [if_pos (by have := HPL.out; have := HX.out; omega)])).mono ?_
            rintro e w3 ⟨v23, rfl, hv, hb⟩
            refine ⟨_, rfl, ?_⟩
            have B3 := below_step B2.out hb
            have S3 := Aside0.mk (show (w3.cell? ⟨ba, 0, none⟩ = some (.func (.func 70) #[] #[.pointer (some ⟨bo, 0, none⟩), .pointer (some ⟨bc, 0, none⟩), .pointer (some ⟨ba, 0, none⟩)]) ∧ w3.cell? ⟨bc, 0, none⟩ = some (.slice (some ad) calls.length cc) ∧ w3.cell? (ad.add (j * 2)) = some (.int .i64 x.f0) ∧ w3.cell? ⟨(ad.add (j * 2)).block, (ad.add (j * 2)).off + 1, none⟩ = some (.int .i64 x.f1)) from ⟨(hb.cell (World.block_lt_of_cell? _ _ hHeld.1)).trans hHeld.1, (hb.cell (World.block_lt_of_cell? _ _ hHeld.2.1)).trans hHeld.2.1, (hb.cell (World.block_lt_of_cell? _ _ hHeld.2.2.1)).trans hHeld.2.2.1, (hb.cell (World.block_lt_of_cell? _ _ hHeld.2.2.2)).trans hHeld.2.2.2⟩)
            have R3 := Kd.R_lower hv B2.out.size
            have C3 := Kd.C_below C2.out hb
            refine hK.out _ _ S3.out (fun hHeld => ?_)
            clear hK K
            refine norm_ (a' := ?_) ?_ ?_
            rotate_left
            · show Act.put _ (some 41) _ = _
              simp only [Act.put, List.setIfInBounds_toArray, List.set_cons_zero, List.set_cons_succ, i64_w, i32_w]
              rfl
            exact norm_ (by simp only [putAll, Act.put, List.setIfInBounds_toArray, List.set_cons_zero, List.set_cons_succ]; rfl) (hCont (v23, .slice A25 1 c25) _ ⟨hHeld, R3, ⟨A25, c25, rfl, C3⟩, B3⟩)
        rintro ⟨v41, v46⟩ w3 ⟨hHeld, R3, ⟨A25, c25, rfl, C3⟩, B3⟩
        have HR3 := Aside0.mk R3
        have HC3 := Aside0.mk C3
        have HB3 := Aside0.mk B3
        clear R3 C3 B3
        refine norm_ (by simp only [putAll, Act.put, List.setIfInBounds_toArray, List.set_cons_zero, List.set_cons_succ]; rfl) ?_
        refine one_ (i := 8) (N := some 47) #[true, true, true, true, true, true, true, true, true, true, true, true, true, true, false] rfl rfl (one_of HT_.out (by kernel_rfl)) (by decide) (fun K hK => ?_)
        refine Kd.R_append_rows_step k54 (w0 := wq) wq.heap.size (by rfl) (.tmp 41) (.tmp 46) 26 54 (.agg #[.int .i64 0, .int .i64 0]) 16 rfl Try.underlying26 info54 rfl (by decide) (by omega) v41 pre [x] A25 1 c25 (fun _ => True) (fun _ => False) rfl rfl HR3.out HC3.out (fun _ _ h => h) (fun _ h => h.elim) (fun _ _ => trivial) HB3.out HB3.out.size (by have := HPL.out; have := HX.out; simp; omega) ?_
        intro v47 w4 ho hb hg hat
        have R47 := Aside0.mk ho
        have B4 := Aside0.mk hb
        have S4 := Aside0.mk (show (w4.cell? ⟨ba, 0, none⟩ = some (.func (.func 70) #[] #[.pointer (some ⟨bo, 0, none⟩), .pointer (some ⟨bc, 0, none⟩), .pointer (some ⟨ba, 0, none⟩)]) ∧ w4.cell? ⟨bc, 0, none⟩ = some (.slice (some ad) calls.length cc) ∧ w4.cell? (ad.add (j * 2)) = some (.int .i64 x.f0) ∧ w4.cell? ⟨(ad.add (j * 2)).block, (ad.add (j * 2)).off + 1, none⟩ = some (.int .i64 x.f1)) from ⟨(hb.cell (World.block_lt_of_cell? _ _ fa)).trans fa, (hb.cell (World.block_lt_of_cell? _ _ fc)).trans fc, (hb.cell (World.block_lt_of_cell? _ _ hx0)).trans hx0, (hb.cell (World.block_lt_of_cell? _ _ hx1)).trans hx1⟩)
        clear ho hb hg hat HR3 HC3 HB3
        refine hK.out _ _ S4.out (fun hHeld => ?_)
        clear hK K
        refine norm_ (a' := ?_) ?_ ?_
        rotate_left
        · show Act.put _ (some 47) _ = _
          simp only [Act.put, List.setIfInBounds_toArray, List.set_cons_zero, List.set_cons_succ, i64_w, i32_w]
          rfl
        refine last_ (i := 14) (N := some 53) #[true, true, true, true, true, true, true, true, true, true, true, true, true, true, true] rfl rfl (one_of HT_.out (by kernel_rfl)) (by decide) (fun K hK => ?_)
        have hbase : ∀ k, some k = v47.ownBlock → wq.heap.size ≤ k := fun k hk => Kd.R_base R47.out k hk.symm
        have hoq := World.block_lt_of_cell? wq _ OQ.out.cell
        have hcq := World.block_lt_of_cell? wq _ fc
        have haq := World.block_lt_of_cell? wq _ fa
        have e1 := HE.out
        rw [HDR.out] at e1
        have e2 : impl_matchings.addT (x :: calls.drop (j + 1)) pre seen = ((pre ++ [x]) :: impl_matchings.addT (calls.drop (j + 1)) (pre ++ [x]) (Go.bits .or .u16 seen ow)) ++ impl_matchings.addT (calls.drop (j + 1)) pre seen := by
          show (if Go.bits .and .u16 seen (impl_matchings.own x) = 0 then _ else _) ++ _ = _
          rw [HOW.out, if_pos HZ.out]
        rw [e2] at e1
        have e3 := congrArg List.length e1
        simp only [List.length_append, List.length_cons] at e3
        have hih := ih (calls.length - (j + 1)) (by have := HIM.out; have := HX.out; have := HLT.out; omega) (j + 1) (pre ++ [x]) (Go.bits .or .u16 seen ow) v47 VV OO w4 (by have := HLT.out; omega) (by have := HPL.out; have := HX.out; simp; omega) (by have := HBD.out; omega) ⟨S4.out.2.1, S4.out.1⟩ (OQ.out.lift B4.out) (fun k hk => by have := hbase k hk; simp only at hoq hcq haq; omega) (Kd.R_mono (Kd.R_below RCQ.out B4.out) (fun _ _ => trivial)) HCK.out (Kd.R_tight rfl (Kd.R_lower R47.out OQ.out.size)) (Kd.S_below (Kd.S_mono (Kd.S_bound OQ.out.row) (fun k hk => ⟨hk.1, fun he => by have := hbase k he; have := hk.2.2.1; omega⟩)) B4.out)
        rw [← HWJ.out] at hih
        have E1 := Aside0.mk e1
        clear hbase hoq hcq haq e1 e2 e3
        refine call_ 70 #[v47, .int .i64 (wrap64 ((j : Int) + 1)), .int .u16 (Go.bits .or .u16 seen ow), .pointer (some ⟨bo, 0, none⟩), .pointer (some ⟨bc, 0, none⟩), .pointer (some ⟨ba, 0, none⟩)] (by rfl) rfl (by have he := enters_ (P := Try.prog) Try.func70 (by rfl) rfl #[v47, .int .i64 (wrap64 ((j : Int) + 1)), .int .u16 (Go.bits .or .u16 seen ow), .pointer (some ⟨bo, 0, none⟩), .pointer (some ⟨bc, 0, none⟩), .pointer (some ⟨ba, 0, none⟩)] w4; unfold execOp; simp [resolve, Deferred.ofValue, invoke, Act.eval, he]) ?_
        refine hih.mono ?_
        clear hih
        rintro e w5 ⟨rfl, V5, hO5, hK5, hat5⟩
        have O5 := Aside0.mk hO5
        have K5 := Aside0.mk (show Kept W w5 (fun k => k = bo ∨ some k = V.ownBlock) from (KQ.out.below B4.out).then_ hK5 (fun k hk => by
          rcases hk with hk | hk
          · exact .inl (.inl hk)
          · rcases HAT.out with h | ⟨b, h, hb⟩
            · exact .inl (.inr (by rw [hk, h]))
            · rw [h] at hk
              injection hk with hk
              exact .inr (by omega)))
        have A5 := Aside0.mk (show V5.ownBlock = V.ownBlock ∨ ∃ b, V5.ownBlock = some b ∧ W.heap.size ≤ b by
          rcases hat5 with h | ⟨b, h, hb⟩
          · rw [h]; exact HAT.out
          · exact .inr ⟨b, h, Nat.le_trans (Nat.le_trans KQ.out.1 B4.out.size) hb⟩)
        clear hO5 hK5 hat5
        refine ⟨_, rfl, ?_⟩
        refine hK.out _ _ ?_
        clear hK K
        refine norm_ (a' := ?_) ?_ ?_
        rotate_left
        · show Act.put _ (some 53) _ = _
          simp only [Act.put, List.setIfInBounds_toArray, List.set_cons_zero, List.set_cons_succ, i64_w, i32_w]
          rfl
        refine done_ (done_of HT_.out (by kernel_rfl)) ?_
        go_wp2
        go_roundg (calls.length + 1 - (j + 1))
        case measure => have := HX.out; have := HLT.out; omega
        case rel =>
          refine ⟨j + 1, V5, _, by rw [HWJ.out], ⟨by have := HX.out; omega, by have := HLT.out; omega, by omega⟩, ⟨?_⟩, O5, K5, A5⟩
          rw [← E1.out]
          simp
      · have z1 : (Go.bits .and .u16 seen ow == 0) = false := beq_eq_false_iff_ne.mpr hz
        have HZ := Aside0.mk hz
        clear hz
        go_wp2
        go_roundg (calls.length + 1 - (j + 1))
        case measure => have := HX.out; have := HLT.out; omega
        case rel =>
          refine ⟨j + 1, VV, OO, by rw [HWJ.out], ⟨by have := HX.out; omega, by have := HLT.out; omega, by omega⟩, ⟨?_⟩, OQ, KQ, HAT⟩
          rw [← HE.out, HDR.out]
          show _ = OO ++ ((if Go.bits .and .u16 seen (impl_matchings.own x) = 0 then _ else []) ++ _)
          rw [HOW.out, if_neg HZ.out, List.nil_append]
    · have d1 : decide ((j : Int) < (calls.length : Int)) = false := decide_eq_false (by omega)
      have d2 : ((j : Int) < (calls.length : Int)) = False := eq_false (by omega)
      have HLT := Aside0.mk hlt
      clear hlt
      go_wp2
      go_end0
      refine ⟨rfl, VV, ?_, HK.out, HAT.out⟩
      have e := HE.out
      rw [List.drop_eq_nil_of_le (by have := HLT.out; omega)] at e
      rw [← e]
      show impl_matchings.Out bo bc ba base w0 VV (OO ++ []) wr
      rw [List.append_nil]
      exact HOO.out
theorem impl_matchings.heap4 (w : World) (o0 o1 o2 o3 : Obj) : ((((w.alloc o0).alloc o1).alloc o2).alloc o3).heap[w.heap.size]? = some o0 ∧ ((((w.alloc o0).alloc o1).alloc o2).alloc o3).heap[w.heap.size + 1]? = some o1 ∧ ((((w.alloc o0).alloc o1).alloc o2).alloc o3).heap[w.heap.size + 1 + 1]? = some o2 ∧ ((((w.alloc o0).alloc o1).alloc o2).alloc o3).heap[w.heap.size + 1 + 1 + 1]? = some o3 := by
  have e0 := heap_alloc_new w o0
  have e1 := heap_alloc_new (w.alloc o0) o1
  have e2 := heap_alloc_new ((w.alloc o0).alloc o1) o2
  have e3 := heap_alloc_new (((w.alloc o0).alloc o1).alloc o2) o3
  rw [show (w.alloc o0).heap.size = w.heap.size + 1 by simp] at e1
  rw [show ((w.alloc o0).alloc o1).heap.size = w.heap.size + 1 + 1 by simp] at e2
  rw [show (((w.alloc o0).alloc o1).alloc o2).heap.size = w.heap.size + 1 + 1 + 1 by simp] at e3
  exact ⟨blk_alloc (blk_alloc (blk_alloc e0 _) _) _, blk_alloc (blk_alloc e1 _) _, blk_alloc e2 _, e3⟩
theorem impl_matchings.heap5 (w : World) (o0 o1 o2 o3 o4 : Obj) : ∀ k o, (k = w.heap.size ∧ o = o0 ∨ k = w.heap.size + 1 ∧ o = o1 ∨ k = w.heap.size + 1 + 1 ∧ o = o2 ∨ k = w.heap.size + 1 + 1 + 1 ∧ o = o3 ∨ k = w.heap.size + 1 + 1 + 1 + 1 ∧ o = o4) → (((((w.alloc o0).alloc o1).alloc o2).alloc o3).alloc o4).heap[k]? = some o := by
  obtain ⟨e0, e1, e2, e3⟩ := impl_matchings.heap4 w o0 o1 o2 o3
  have e4 := heap_alloc_new ((((w.alloc o0).alloc o1).alloc o2).alloc o3) o4
  rw [show ((((w.alloc o0).alloc o1).alloc o2).alloc o3).heap.size = w.heap.size + 1 + 1 + 1 + 1 by simp] at e4
  rintro k o (⟨rfl, rfl⟩ | ⟨rfl, rfl⟩ | ⟨rfl, rfl⟩ | ⟨rfl, rfl⟩ | ⟨rfl, rfl⟩)
  · exact blk_alloc e0 _
  · exact blk_alloc e1 _
  · exact blk_alloc e2 _
  · exact blk_alloc e3 _
  · exact e4
set_option maxHeartbeats 4000000 in
set_option maxRecDepth 100000 in
theorem impl_matchings.calls (calls : List S54) (hcl : calls.length ≤ 1000) (hcn : ∀ x ∈ calls, 0 ≤ x.f0 ∧ 0 ≤ x.f1) (hbd : (impl_matchings.all calls).length ≤ 1000000000) (A : Option Addr) (cc bR : Nat) (w : World) (hR : Kd.R k54 54 w bR (fun _ => True) (.slice A calls.length cc) calls) :
    Calls Try.prog 56 #[.slice A calls.length cc] w fun e w' => ∃ v', e = .returned v' ∧ Kd.S (Kd.slice 54 k54) 26 w' w.heap.size (fun _ => True) v' (impl_matchings.all calls) ∧ Below w.heap.size w w' := by
  have HR := Aside0.mk hR
  have HBD := Aside0.mk hbd
  clear hR hbd
  have h4 := impl_matchings.heap4 w (.cells #[.slice A calls.length cc] 26) (.cells #[] 26) (.cells #[.slice (some ⟨w.heap.size + 1, 0, none⟩) 0 0] 37) (.cells #[.nilFunc] 87)
  have hst : (store ⟨w.heap.size + 1 + 1 + 1, 0, none⟩ (.func (.func 70) #[] #[.pointer (some ⟨w.heap.size + 1 + 1, 0, none⟩), .pointer (some ⟨w.heap.size, 0, none⟩), .pointer (some ⟨w.heap.size + 1 + 1 + 1, 0, none⟩)])).run Try.prog ((((w.alloc (.cells #[.slice A calls.length cc] 26)).alloc (.cells #[] 26)).alloc (.cells #[.slice (some ⟨w.heap.size + 1, 0, none⟩) 0 0] 37)).alloc (.cells #[.nilFunc] 87)) = .ok () (((((w.alloc (.cells #[.slice A calls.length cc] 26)).alloc (.cells #[] 26)).alloc (.cells #[.slice (some ⟨w.heap.size + 1, 0, none⟩) 0 0] 37)).alloc (.cells #[.nilFunc] 87)).setCell ⟨w.heap.size + 1 + 1 + 1, 0, none⟩ (.func (.func 70) #[] #[.pointer (some ⟨w.heap.size + 1 + 1, 0, none⟩), .pointer (some ⟨w.heap.size, 0, none⟩), .pointer (some ⟨w.heap.size + 1 + 1 + 1, 0, none⟩)])) := by
    rw [run_store Try.prog _ _ _ _ (by rfl), show World.cell? _ ⟨w.heap.size + 1 + 1 + 1, 0, none⟩ = some Value.nilFunc from blk_cell h4.2.2.2 0]
    simp only [show World.frozen? _ ⟨w.heap.size + 1 + 1 + 1, 0, none⟩ = false from blk_frozen h4.2.2.2 0]
    rfl
  clear h4
  go_enter Try.func56, Try.ntmps56
  go_wp2_with fail
  clear hst
  have h5 := impl_matchings.heap5 w (.cells #[.slice A calls.length cc] 26) (.cells #[] 26) (.cells #[.slice (some ⟨w.heap.size + 1, 0, none⟩) 0 0] 37) (.cells #[.func (.func 70) #[] #[.pointer (some ⟨w.heap.size + 1 + 1, 0, none⟩), .pointer (some ⟨w.heap.size, 0, none⟩), .pointer (some ⟨w.heap.size + 1 + 1 + 1, 0, none⟩)]] 87) (.cells #[] 54)
  have B5 : Below w.heap.size w (((((w.alloc (.cells #[.slice A calls.length cc] 26)).alloc (.cells #[] 26)).alloc (.cells #[.slice (some ⟨w.heap.size + 1, 0, none⟩) 0 0] 37)).alloc (.cells #[.func (.func 70) #[] #[.pointer (some ⟨w.heap.size + 1 + 1, 0, none⟩), .pointer (some ⟨w.heap.size, 0, none⟩), .pointer (some ⟨w.heap.size + 1 + 1 + 1, 0, none⟩)]] 87)).alloc (.cells #[] 54)) := by
    repeat (first | exact Below.refl _ _ | apply below_alloc)
  generalize (((((w.alloc (.cells #[.slice A calls.length cc] 26)).alloc (.cells #[] 26)).alloc (.cells #[.slice (some ⟨w.heap.size + 1, 0, none⟩) 0 0] 37)).alloc (.cells #[.func (.func 70) #[] #[.pointer (some ⟨w.heap.size + 1 + 1, 0, none⟩), .pointer (some ⟨w.heap.size, 0, none⟩), .pointer (some ⟨w.heap.size + 1 + 1 + 1, 0, none⟩)]] 87)).alloc (.cells #[] 54)) = w5 at h5 B5 ⊢
  have g0 := h5 _ _ (.inl ⟨rfl, rfl⟩)
  have g1 := h5 _ _ (.inr (.inl ⟨rfl, rfl⟩))
  have g2 := h5 _ _ (.inr (.inr (.inl ⟨rfl, rfl⟩)))
  have g3 := h5 _ _ (.inr (.inr (.inr (.inl ⟨rfl, rfl⟩))))
  have g4 := h5 _ _ (.inr (.inr (.inr (.inr ⟨rfl, rfl⟩))))
  clear h5
  have hS0 : ∀ ok : Nat → Prop, ok (w.heap.size + 1) → Kd.S (Kd.slice 54 k54) 26 w5 w.heap.size ok (.slice (some ⟨w.heap.size + 1, 0, none⟩) 0 0) [] := fun ok hok => ⟨fun _ => 0, fun k hk => by simp [Value.ownBlock] at hk; subst hk; exact hok, [], ⟨rfl, .inr ⟨w.heap.size + 1, 0, #[], rfl, by omega, g1, Nat.le_refl _, by decide, by simp, by simp⟩⟩, Reps.none _ _⟩
  have hR0 : Kd.R k54 54 w5 w.heap.size (fun k => some k = (Value.slice (some ⟨w.heap.size + 1 + 1 + 1 + 1, 0, none⟩) 0 0).ownBlock) (.slice (some ⟨w.heap.size + 1 + 1 + 1 + 1, 0, none⟩) 0 0) [] := ⟨fun k hk => hk.symm, [], ⟨rfl, .inr ⟨w.heap.size + 1 + 1 + 1 + 1, 0, #[], rfl, by omega, g4, Nat.le_refl _, by decide, by simp, by simp⟩⟩, Reps.none _ _⟩
  have hadd := impl_matchings.add calls hcl hcn A cc (w.heap.size + 1 + 1) w.heap.size (w.heap.size + 1 + 1 + 1) w.heap.size bR w (by omega) (by omega) (by omega) calls.length 0 [] 0 (.slice (some ⟨w.heap.size + 1 + 1 + 1 + 1, 0, none⟩) 0 0) (.slice (some ⟨w.heap.size + 1, 0, none⟩) 0 0) [] w5 (by omega) (Nat.le_refl _) (by have := HBD.out; unfold impl_matchings.all at this; rw [List.drop_zero]; simp at this ⊢; omega) ⟨blk_cell g0 0, blk_cell g3 0⟩ ⟨blk_cell g2 0, blk_frozen g2 0, hS0 _ ⟨by omega, by omega, by omega⟩, B5, B5.size⟩ (fun k hk => by simp [Value.ownBlock] at hk; omega) (Kd.R_below HR.out B5) (fun k hk => by have := Kd.R_lt HR.out k hk.symm; omega) hR0 (hS0 _ ⟨⟨by omega, by omega, by omega⟩, by simp [Value.ownBlock]⟩)
  rw [show ((0 : Nat) : Int) = 0 from rfl, List.drop_zero] at hadd
  refine hadd.mono ?_
  clear hadd g0 g1 g2 g3 g4 hS0 hR0 B5
  rintro e w6 ⟨rfl, V', hO, _, _⟩
  obtain ⟨A', c', rfl, _⟩ := Kd.S_reads hO.row
  have fo := hO.cell
  have HO := Aside0.mk hO
  clear hO
  go_wp2
  go_ret
  exact ⟨_, rfl, Kd.S_mono HO.out.row (fun _ _ => trivial), HO.out.below⟩


end Go.Proofs.Ytoncbgjbkgdbaaa.PFnExactMostInformed
