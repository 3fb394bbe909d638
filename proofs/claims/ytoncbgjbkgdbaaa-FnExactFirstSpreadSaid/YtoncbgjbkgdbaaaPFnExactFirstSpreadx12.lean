-- Written by a program of this claim, over the kit's print: the functions that a law reaches, their plain forms and the walks.
import Derived.Test.YtoncbgjbkgdbaaaPFnExactFirstSpreadx0
import Derived.Test.YtoncbgjbkgdbaaaPFnExactFirstSpreadx5
import Derived.Test.YtoncbgjbkgdbaaaPFnExactFirstSpreadx7
import Derived.Test.YtoncbgjbkgdbaaaPFnExactFirstSpreadx8
import Derived.Test.YtoncbgjbkgdbaaaPFnExactFirstSpreadx11
namespace Go.Proofs.Ytoncbgjbkgdbaaa.PFnExactFirstSpread
open Go.RowKit Go.Proofs.YtoncbgjbkgdbaaaW.PrintWords Go.Proofs.YtoncbgjbkgdbaaaW.PrintLast Go.Proofs.YtoncbgjbkgdbaaaW.PrintMore
attribute [local go_sem] max2_int min2_int max_two min_two max_three min_three max_four min_four   -- for this text's walks alone
set_option linter.unusedVariables false
set_option linter.unusedSimpArgs false

/-! ### impl_FirstSpread: function 19 -/
/-- So many more rounds, each the first that leads on. -/
def impl_FirstSpread.walk (D : Int → Int) (rounds : Int → List (List S54)) (bh : Int → List S54 → Int) : Nat → Int → List (List S54) → List (List S54)
  | 0, _, out => out
  | d + 1, set, out => match (rounds set).find? (fun r => D (bh set r) == (d : Int)) with
    | some r => impl_FirstSpread.walk D rounds bh d (bh set r) (out ++ [r])
    | none => impl_FirstSpread.walk D rounds bh d set out
/-- The rounds of these pairs. -/
def impl_FirstSpread.W (fr : Int) (pairs : List S54) : Nat → Int → List (List S54) → List (List S54) := impl_FirstSpread.walk (impl_spread_left.D fr pairs) (fun set => impl_spread_rounds.rounds set pairs) impl_spread_left.bh
/-- The first of these that leads on. -/
def impl_FirstSpread.after (fr : Int) (pairs : List S54) (d : Nat) (set : Int) (out rest : List (List S54)) : List (List S54) := match rest.find? (fun r => impl_spread_left.D fr pairs (impl_spread_left.bh set r) == (d : Int)) with
  | some r => impl_FirstSpread.W fr pairs d (impl_spread_left.bh set r) (out ++ [r])
  | none => impl_FirstSpread.W fr pairs d set out
theorem impl_FirstSpread.W_succ (fr : Int) (pairs : List S54) (d : Nat) (set : Int) (out : List (List S54)) : impl_FirstSpread.W fr pairs (d + 1) set out = impl_FirstSpread.after fr pairs d set out (impl_spread_rounds.rounds set pairs) := rfl
theorem impl_FirstSpread.after_yes {fr : Int} {pairs : List S54} {d : Nat} {set : Int} {out rest : List (List S54)} {r : List S54} (h : impl_spread_left.D fr pairs (impl_spread_left.bh set r) = (d : Int)) : impl_FirstSpread.after fr pairs d set out (r :: rest) = impl_FirstSpread.W fr pairs d (impl_spread_left.bh set r) (out ++ [r]) := by
  unfold impl_FirstSpread.after
  rw [List.find?_cons_of_pos (by simpa using h)]
theorem impl_FirstSpread.after_no {fr : Int} {pairs : List S54} {d : Nat} {set : Int} {out rest : List (List S54)} {r : List S54} (h : impl_spread_left.D fr pairs (impl_spread_left.bh set r) ≠ (d : Int)) : impl_FirstSpread.after fr pairs d set out (r :: rest) = impl_FirstSpread.after fr pairs d set out rest := by
  unfold impl_FirstSpread.after
  rw [List.find?_cons_of_neg (by simpa using h)]
open Classical in
noncomputable def impl_FirstSpread.f (k : Nat) (a0 : Int) (l1 : List S54) (a2 : Int) : Option (List (List S54) × Bool) := (impl_SpreadRounds.f k a0 l1 a2).bind fun t => if t.2 = true then (if impl_SpreadRounds.Fine a0 l1 ∧ (0 ≤ a2 ∧ a2 < a0) ∧ (0 ≤ t.1 ∧ t.1 ≤ 300) then some (impl_FirstSpread.W a0 l1 t.1.toNat (shl .u16 1 a2) [], true) else none) else some ([], false)
theorem impl_FirstSpread.mono : ∀ a0 a1 a2 k, LeO (impl_FirstSpread.f k a0 a1 a2) (impl_FirstSpread.f (k + 1) a0 a1 a2) := fun a0 a1 a2 k => LeO.bind (impl_SpreadRounds.mono _ _ _ _) (fun _ => LeO.refl _)
theorem impl_FirstSpread.elemS {rows : List (List S54)} {w : World} {B : Nat} {ok : Nat → Prop} {A : Option Addr} {c : Nat} (h : Kd.S (Kd.slice 54 k54) 26 w B ok (.slice A rows.length c) rows) (i : Nat) (hi : i < rows.length) :
    ∃ (g : Nat) (A1 : Option Addr) (c1 : Nat) (a : List S54), A = some ⟨g, 0, none⟩ ∧ B ≤ g ∧ rows.drop i = a :: rows.drop (i + 1) ∧ w.cell? ⟨g, i, none⟩ = some (.slice A1 a.length c1) ∧ Kd.R k54 54 w B (fun k => ok k ∧ k ≠ g) (.slice A1 a.length c1) a := by
  obtain ⟨g, cap, hv, hB, _⟩ := Kd.S_form h (by omega)
  injection hv with hA hn hc
  subst hA hc
  obtain ⟨ce, hce, hMe, hcc⟩ := Kd.S_get h [] (i : Int) (by omega) (by omega)
  obtain ⟨v, rfl, hR⟩ := hMe
  obtain ⟨A1, c1, rfl⟩ := Kd.R_slice hR
  have hv := hcc 0 _ rfl
  rw [Nat.add_zero, show ((Kd.slice 54 k54)).sz = 1 from rfl, Nat.mul_one, add_at, Nat.zero_add] at hv
  simp only [Int.toNat_natCast] at hv hR
  refine ⟨g, A1, c1, rows.getD i [], rfl, hB, ?_, hv, Kd.R_mono hR (fun k hk => ⟨hk.1, fun e => hk.2 (by simp [Value.ownBlock, e])⟩)⟩
  rw [List.drop_eq_getElem_cons hi, List.getD_eq_getElem?_getD, List.getElem?_eq_getElem hi]
  rfl
def impl_FirstSpread.T4 : Bool × List (List Nat × List Nat) := (true, [([], []), ([], []), ([0, 1], [0, 1]), ([], []), ([3], [3]), ([], []), ([], []), ([6, 2, 2, 0, 1, 2, 6], [2, 6]), ([4, 7, 0, 1, 2, 3, 4, 6, 7], [4]), ([5, 8, 0, 1, 2, 3, 4, 5, 6, 7, 8], [5])])
def impl_FirstSpread.B4 : List Nat := [0, 0, 3, 0, 8, 0, 0, 71, 223, 511]
theorem impl_FirstSpread.tab4 : rtab .any (opsOf Try.f19 4) = impl_FirstSpread.T4 := by kernel_rfl
theorem impl_FirstSpread.bits4 : waitsOk impl_FirstSpread.T4.2 impl_FirstSpread.B4 = true := by kernel_rfl
set_option maxHeartbeats 8000000 in
set_option maxRecDepth 100000 in
theorem impl_FirstSpread.calls (k : Nat) (a0 : Int) (A1 : Option Addr) (c1 : Nat) (l1 : List S54) (a2 : Int) (r1 : List (List S54)) (r2 : Bool) (w : World) (hr1 : Kd.C k54 w A1 l1.length l1) (hc1 : l1.length ≤ c1) (h : impl_FirstSpread.f k a0 l1 a2 = some (r1, r2)) :
    Calls Try.prog 19 #[.int .i64 a0, .slice A1 l1.length c1, .int .i64 a2] w fun e w' => ∃ v0_ : Value, e = .returned (.tuple #[v0_, .bool r2]) ∧ Kd.S (Kd.slice 54 k54) 26 w' w.heap.size (fun _ => True) v0_ r1 ∧ Below w.heap.size w w' := by
  have HR1 := Aside0.mk hr1
  have HC1 := Aside0.mk hc1
  clear hr1 hc1
  unfold impl_FirstSpread.f at h
  replace h := Option.bind_eq_some_iff.mp h
  obtain ⟨⟨many, t⟩, ht, h⟩ := h
  have HT := Aside0.mk ht
  clear ht
  cases t with
  | false =>
    rw [if_neg (show ¬((many, false).2 = true) from Bool.false_ne_true)] at h
    obtain ⟨rfl, rfl⟩ := Prod.mk.inj (Option.some.inj h)
    clear h
    go_enter Try.func19, Try.ntmps19
    go_wp2_with fail
    refine (impl_SpreadRounds.calls k a0 A1 c1 l1 a2 many false w HR1.out HC1.out HT.out).mono ?_
    rintro e w1 ⟨rfl, hb⟩
    have B1 := Aside0.mk hb
    clear hb
    go_wp2
    go_ret2
    exact ⟨_, rfl, Kd.S_nil _ _ _ _ _, B1.out⟩
  | true =>
    rw [if_pos rfl] at h
    by_cases hF : impl_SpreadRounds.Fine a0 l1 ∧ (0 ≤ a2 ∧ a2 < a0) ∧ (0 ≤ many ∧ many ≤ 300)
    case neg => rw [if_neg hF] at h; cases h
    rw [if_pos hF] at h
    have HF := Aside0.mk hF
    obtain ⟨h1, rfl⟩ := Prod.mk.inj (Option.some.inj h)
    have H := Aside0.mk h1
    clear h hF h1
    go_enter Try.func19, Try.ntmps19
    go_wp2_with fail
    refine (impl_SpreadRounds.calls k a0 A1 c1 l1 a2 many true w HR1.out HC1.out HT.out).mono ?_
    rintro e w1 ⟨rfl, hb⟩
    have B1 := Aside0.mk hb
    clear hb
    have i3 : decide (0 ≤ a2) = true := decide_eq_true HF.out.2.1.1
    have i4 : (0 ≤ a2) = True := eq_true HF.out.2.1.1
    obtain ⟨SH, hSH⟩ : ∃ SH, IntKind.u16.wrap (2 ^ min a2.toNat 16) = SH := ⟨_, rfl⟩
    have hS2 : shl .u16 1 a2 = SH := by rw [← hSH]; unfold shl; rw [Int.one_mul]; rfl
    have HIN := Aside0.mk (show impl_SpreadRounds.In a0 SH by rw [← hS2]; exact impl_SpreadRounds.shl_in HF.out.1.1.2 HF.out.2.1.1 HF.out.2.1.2)
    rw [hS2] at H
    clear hS2
    go_wp2_with fail
    refine start_ (n := 10) (S := fun _ => True) (ds := []) #[false, false, false, false, false, false, false, false, false, false] (by kernel_rfl) rfl rfl trivial (fun _ => ?_); refine with_tabW impl_FirstSpread.tab4 impl_FirstSpread.bits4 (fun HT_ HW_ => ?_)
    have BW := Aside0.mk (below_step B1.out (below_drew1 (Below.refl w1.heap.size w1)))
    generalize w1.drew = W0 at BW ⊢
    refine pure_ (i := 0) (N := some 26) (v := ?_) (a' := ?_) #[true, false, false, false, false, false, false, false, false, false] rfl rfl (any_of HT_.out (by kernel_rfl)) (fun _ _ _ h => h) (Or.inl ⟨by rfl, ?_⟩) ?_ ?_
    rotate_left
    · intro w'
      go_simp
      with_reducible rfl
    rotate_left
    · simp only [Act.put, List.setIfInBounds_toArray, List.set_cons_zero, List.set_cons_succ, i64_w, i32_w]
      rfl
    refine pure_ (i := 1) (N := some 27) (v := ?_) (a' := ?_) #[true, true, false, false, false, false, false, false, false, false] rfl rfl (any_of HT_.out (by kernel_rfl)) (fun _ _ _ h => h) (Or.inl ⟨by rfl, ?_⟩) ?_ ?_
    rotate_left
    · intro w'
      go_simp
      with_reducible rfl
    rotate_left
    · simp only [Act.put, List.setIfInBounds_toArray, List.set_cons_zero, List.set_cons_succ, i64_w, i32_w]
      rfl
    refine pure_ (i := 3) (N := some 29) (v := ?_) (a' := ?_) #[true, true, false, true, false, false, false, false, false, false] rfl rfl (any_of HT_.out (by kernel_rfl)) (fun _ _ _ h => h) (Or.inl ⟨by rfl, ?_⟩) ?_ ?_
    rotate_left
    · intro w'
      go_simp
      with_reducible rfl
    rotate_left
    · simp only [Act.put, List.setIfInBounds_toArray, List.set_cons_zero, List.set_cons_succ, i64_w, i32_w]
      rfl
    refine pure_ (i := 4) (N := some 30) (v := ?_) (a' := ?_) #[true, true, false, true, true, false, false, false, false, false] rfl rfl (any_of HT_.out (by kernel_rfl)) (fun _ _ _ h => h) (Or.inl ⟨by rfl, ?_⟩) ?_ ?_
    rotate_left
    · intro w'
      go_simp
      with_reducible rfl
    rotate_left
    · simp only [Act.put, List.setIfInBounds_toArray, List.set_cons_zero, List.set_cons_succ, i64_w, i32_w]
      rfl
    refine join_ (σ := Nat × Nat × Nat) 1 #[true, true, true, true, true, true, true, true, true, false] (fun s => [(28, .agg #[.int .i64 a0, .slice A1 l1.length c1, .map (some s.1)]), (31, .slice (some ⟨s.2.1, 0, none⟩) 0 0), (10, .pointer (some ⟨s.2.2, 0, none⟩)), (11, .int .u16 SH)]) (fun s W => Aside0 (Below w.heap.size w W) ∧ Aside0 (w.heap.size ≤ s.1 ∧ W.heap[s.1]? = some (.map #[] 0)) ∧ Aside0 (w.heap.size ≤ s.2.1 ∧ W.heap[s.2.1]? = some (.cells #[] 26 (0, 0))) ∧ Aside0 (w.heap.size ≤ s.2.2 ∧ W.heap[s.2.2]? = some (.cells #[.int .i64 a0, .slice A1 l1.length c1, .map (some s.1)] 61 (0, 0)))) ?cont (fun hjoin => ?_)
    case cont =>
      rintro ⟨b, g, p⟩ W ⟨BW, FB, FG, FP⟩
      refine norm_ (a' := ?_) ?_ ?_
      rotate_left
      · simp only [putAll, Act.put, List.setIfInBounds_toArray, List.set_cons_zero, List.set_cons_succ]
        rfl
      refine pure_ (i := 9) (N := some 12) (v := ?_) (a' := ?_) #[true, true, true, true, true, true, true, true, true, true] rfl rfl (any_of HT_.out (by kernel_rfl)) (fun _ _ _ h => h) (Or.inl ⟨by rfl, ?_⟩) ?_ ?_
      rotate_left
      · intro w'
        go_simp
        with_reducible rfl
      rotate_left
      · simp only [Act.put, List.setIfInBounds_toArray, List.set_cons_zero, List.set_cons_succ, i64_w, i32_w]
        rfl

      refine done_ (done_of HT_.out (by kernel_rfl)) ?_
      have hwm : wrap64 (many - 1) = many - 1 := by have := HF.out.2.2; unfold wrap64; omega
      have HX := Aside0.mk (show W.cell? ⟨p, 0, none⟩ = some (.int .i64 a0) ∧ W.cell? ⟨p, 1, none⟩ = some (.slice A1 l1.length c1) ∧ W.cell? ⟨p, 2, none⟩ = some (.map (some b)) from ⟨(blk_cell FP.out.2 0).trans rfl, (blk_cell FP.out.2 1).trans rfl, (blk_cell FP.out.2 2).trans rfl⟩)
      have HPB := Aside0.mk (show p ≠ b ∧ w.heap.size ≤ p ∧ w.heap.size ≤ b from ⟨fun e => (by have h := FP.out.2; rw [e, FB.out.2] at h; cases h), FP.out.1, FB.out.1⟩)
      have MM := Aside0.mk (impl_SpreadRounds.memo0 (fr := a0) (pairs := l1) FB.out.2)
      have O := Aside0.mk (show Kd.S (Kd.slice 54 k54) 26 W w.heap.size (fun k => k ≠ b ∧ k ≠ p) (.slice (some ⟨g, 0, none⟩) 0 0) ([] : List (List S54)) from ⟨fun _ => 0, fun k hk => (by
        have e : g = k := by simpa [Value.ownBlock] using hk
        subst e
        exact ⟨fun e => (by have h := FG.out.2; rw [e, FB.out.2] at h; cases h), blk_ne FG.out.2 FP.out.2 (by decide)⟩), [], ⟨rfl, .inr ⟨g, 0, #[], rfl, FG.out.1, FG.out.2, by simp, by simp, by simp, by simp⟩⟩, Reps.none _ _⟩)
      clear FB FG FP HT_ HW_
      go_wp2
      go_loopg [11, 12, 13] (many.toNat + 2) (fun gg v11 v12 v13 wr => ∃ (d : Nat) (set x13 : Int) (out : List (List S54)), v11 = .int .u16 set ∧ v13 = .int .i64 x13 ∧ Aside0 (x13 = (d : Int) - 1) ∧ Aside0 (d + 2 ≤ gg) ∧ Aside0 (impl_SpreadRounds.In a0 set) ∧ Aside0 (d ≤ 300 ∧ out.length + d ≤ 300) ∧ Aside0 (impl_FirstSpread.W a0 l1 d set out = r1) ∧ Aside0 (Kd.S (Kd.slice 54 k54) 26 wr w.heap.size (fun k => k ≠ b ∧ k ≠ p) v12 out) ∧ Aside0 (impl_spread_left.Memo a0 l1 b wr) ∧ Aside0 (wr.cell? ⟨p, 0, none⟩ = some (.int .i64 a0) ∧ wr.cell? ⟨p, 1, none⟩ = some (.slice A1 l1.length c1) ∧ wr.cell? ⟨p, 2, none⟩ = some (.map (some b))) ∧ Aside0 (Below w.heap.size w wr))
      case atStart => exact ⟨many.toNat, SH, many - 1, [], rfl, rfl, ⟨by have := HF.out.2.2; omega⟩, ⟨by omega⟩, HIN, ⟨by have := HF.out.2.2; omega, by have := HF.out.2.2; simp; omega⟩, H, O, MM, HX, BW⟩
      case round =>
        clear H O MM HX BW HIN hwm
        obtain ⟨d, set, x13, out, rfl, rfl, H13, HG, HI, HD, H, O, MM, HX, BW⟩ := hrel
        cases d with
        | zero =>
          have h13 := H13.out
          have e1 : decide (0 ≤ x13) = false := decide_eq_false (by omega)
          have e2 : (0 ≤ x13) = False := eq_false (by omega)
          have e3 : decide (x13 ≥ 0) = false := decide_eq_false (by omega)
          clear h13
          go_wp2
          go_ret2
          have h := H.out
          change out = r1 at h
          subst h
          exact ⟨_, rfl, Kd.S_mono O.out (fun _ _ => trivial), BW.out⟩
        | succ d =>
          obtain rfl : x13 = (d : Int) := by have := H13.out; omega
          have e1 : decide (0 ≤ (d : Int)) = true := decide_eq_true (by omega)
          have e2 : (0 ≤ (d : Int)) = True := eq_true (by omega)
          have e3 : decide ((d : Int) ≥ 0) = true := decide_eq_true (by omega)
          obtain ⟨hx0, hx1, hx2⟩ := HX.out
          go_wp2_with fail
          refine (impl_spread_rounds.calls l1 HF.out.1.2.1 HF.out.1.2.2.1 set a0 (.map (some b)) rfl (HF.out.1.2.2.2.1 set) A1 c1 wr (Kd.C_below HR1.out BW.out) HC1.out).mono ?_
          rintro e w3 ⟨v40, rfl, hs3, hb3⟩
          obtain ⟨rows, hrows⟩ : ∃ rows, rows = impl_spread_rounds.rounds set l1 := ⟨_, rfl⟩
          rw [← hrows] at hs3
          obtain ⟨A4, c4, rfl⟩ := Kd.S_slice hs3
          have hlt : p < wr.heap.size := World.block_lt_of_cell? wr _ hx0
          obtain ⟨s0, hs0⟩ : ∃ s0, s0 = wr.heap.size := ⟨_, rfl⟩
          rw [← hs0] at hs3
          have S3 := Aside0.mk hs3
          have BP := Aside0.mk (show (p < s0 ∧ b < s0) ∧ s0 ≤ w3.heap.size ∧ w.heap.size ≤ s0 by rw [hs0]; exact ⟨⟨hlt, MM.out.choose_spec.1.lt⟩, hb3.size, BW.out.size⟩)
          have X3 := Aside0.mk (show w3.cell? ⟨p, 0, none⟩ = some (.int .i64 a0) ∧ w3.cell? ⟨p, 1, none⟩ = some (.slice A1 l1.length c1) ∧ w3.cell? ⟨p, 2, none⟩ = some (.map (some b)) from ⟨(hb3.cell (p := ⟨p, 0, none⟩) hlt).trans hx0, (hb3.cell (p := ⟨p, 1, none⟩) hlt).trans hx1, (hb3.cell (p := ⟨p, 2, none⟩) hlt).trans hx2⟩)
          have M3 := Aside0.mk (MM.out.below hb3)
          have B3 := Aside0.mk (below_step BW.out hb3)
          have O3 := Aside0.mk (show Kd.S (Kd.slice 54 k54) 26 w3 w.heap.size (fun k => (k ≠ b ∧ k ≠ p) ∧ k < s0) u12 out by rw [hs0]; exact Kd.S_mono (Kd.S_below (Kd.S_bound O.out) hb3) (fun k hk => ⟨hk.1, hk.2.2.1⟩))
          have HROWS := Aside0.mk hrows
          have HRL := Aside0.mk (show rows.length ≤ 1000000000 by rw [hrows]; exact HF.out.1.2.2.2.1 set)
          have HE := Aside0.mk (show impl_FirstSpread.after a0 l1 d set out rows = r1 by rw [hrows]; exact H.out)
          clear hs3 hb3 hlt hrows hs0 hx0 hx1 hx2 O MM HX BW H e1 e2 e3 H13
          go_wp2
          go_loopg [11, 12, 42] (rows.length + 1) (fun gg v11 v12 v42 ww => ∃ (y : Nat), v11 = .int .u16 set ∧ v12 = u12 ∧ v42 = .int .i64 (y : Int) ∧ Aside0 (y ≤ rows.length ∧ rows.length + 1 - y ≤ gg) ∧ Aside0 (impl_FirstSpread.after a0 l1 d set out (rows.drop y) = r1) ∧ Aside0 (impl_spread_left.Memo a0 l1 b ww) ∧ Aside0 (w3.grownBy ww (some b)))
          case atStart => exact ⟨0, rfl, rfl, rfl, ⟨Nat.zero_le _, by omega⟩, HE, M3, ⟨impl_spread_left.grown_refl _ _⟩⟩
          case round =>
            clear HE M3
            obtain ⟨y, rfl, rfl, rfl, HY, HE, M4, HGW⟩ := hrel
            have hgb : ∀ k, k ≠ b → k < w3.heap.size → wr.heap[k]? = w3.heap[k]? := fun k h1 h2 => HGW.out.block k h2 (fun e => h1 (Option.some.inj e))
            have hp3 : p < w3.heap.size := World.block_lt_of_cell? w3 _ X3.out.1
            have hx0 := impl_spread_left.cell_eq X3.out.1 (hgb p HPB.out.1 hp3)
            have hx1 := impl_spread_left.cell_eq X3.out.2.1 (hgb p HPB.out.1 hp3)
            have hx2 := impl_spread_left.cell_eq X3.out.2.2 (hgb p HPB.out.1 hp3)
            by_cases hy : y < rows.length
            · obtain ⟨g4, A5, c5, r, hA4, hg4, hdr, hcell, hR5⟩ := impl_FirstSpread.elemS S3.out y hy
              subst hA4
              have hcr : wr.cell? ⟨g4, y, none⟩ = some (.slice A5 r.length c5) := impl_spread_left.cell_eq hcell (hgb g4 (by have := BP.out; omega) (World.block_lt_of_cell? w3 _ hcell))
              have R5 := Aside0.mk (Kd.R_grown (Kd.R_mono (Kd.R_bound hR5) (ok' := fun k => s0 ≤ k) (fun k hk => hk.2.1)) HGW.out (fun k hk e => by have h1 := Option.some.inj e; have h2 := BP.out; omega))
              have hrm : r ∈ rows := List.mem_of_mem_drop (i := y) (by rw [hdr]; simp)
              have hrx := impl_spread_left.rounds_mem set l1 r (by rw [← HROWS.out]; exact hrm)
              have HBH := Aside0.mk (impl_spread_left.behind_f r (by have := HF.out.1.2.1; omega) (fun x hx => HF.out.1.2.2.1 x (hrx.2 x hx)) set)
              have HI2 := Aside0.mk (HF.out.1.2.2.2.2.2 set HI.out r (by rw [← HROWS.out]; exact hrm))
              have HDR := Aside0.mk hdr
              have HYY := Aside0.mk hy
              have HC5 := Aside0.mk (Kd.R_reads' R5.out).2.2
              have HL5 := Aside0.mk (Kd.R_reads' R5.out).2.1
              have y1 : decide ((y : Int) < (rows.length : Int)) = true := decide_eq_true (by omega)
              have y2 : ((y : Int) < (rows.length : Int)) = True := eq_true (by omega)
              have y3 : (y < rows.length) = True := eq_true hy
              have HB4 := Aside0.mk (show Below w.heap.size w wr from B3.out.trans ⟨HGW.out.os, HGW.out.tape, HGW.out.output, HGW.out.size, fun i hi => HGW.out.block i (Nat.lt_of_lt_of_le hi B3.out.size) (fun e => by have h1 := Option.some.inj e; have h2 := HPB.out; omega)⟩)
              clear hcell hR5 hrm hrx hdr hy hgb hp3 hg4
              go_wp2_with fail
              refine (impl_behind.calls 1001 set A5 c5 r (impl_spread_left.bh set r) wr HC5.out HL5.out HBH.out).mono ?_
              rintro e w4 ⟨rfl, hb4⟩
              have hlt : p < wr.heap.size := World.block_lt_of_cell? wr _ hx0
              have X4 := Aside0.mk (show w4.cell? ⟨p, 0, none⟩ = some (.int .i64 a0) ∧ w4.cell? ⟨p, 1, none⟩ = some (.slice A1 l1.length c1) ∧ w4.cell? ⟨p, 2, none⟩ = some (.map (some b)) from ⟨(hb4.cell (p := ⟨p, 0, none⟩) hlt).trans hx0, (hb4.cell (p := ⟨p, 1, none⟩) hlt).trans hx1, (hb4.cell (p := ⟨p, 2, none⟩) hlt).trans hx2⟩)
              have M5 := Aside0.mk (M4.out.below hb4)
              have B5 := Aside0.mk (below_step HB4.out hb4)
              have R6 := Aside0.mk (Kd.R_below R5.out hb4)
              have HG5 := Aside0.mk (show w3.grownBy w4 (some b) from impl_spread_left.grown_below HGW.out hb4)
              clear hx0 hx1 hx2 hlt hb4 hcr y1 y2 y3 M4 R5 HC5 HB4 HGW
              obtain ⟨hx0, hx1, hx2⟩ := X4.out
              have hrange := impl_SpreadRounds.in_u16 HF.out.1.1.2 HI2.out
              have hCl := impl_spread_left.left a0 HF.out.1.1.1 l1 HF.out.1.2.1 HF.out.1.2.2.1 HF.out.1.2.2.2.1 A1 c1 b HC1.out 300 (Nat.le_refl _) (impl_spread_left.bh set r) w4 hrange.1 hrange.2 (HF.out.1.2.2.2.2.1 _ HI2.out) M5.out (Kd.C_below HR1.out B5.out) (fun h0 ad e => by have h1 := impl_SpreadRounds.C_lt HR1.out h0 ad e; have := HPB.out; omega)
              go_wp2_with fail
              refine hCl.mono ?_
              clear hCl hrange
              rintro e w5 ⟨rfl, hM5, hG5⟩
              have M6 := Aside0.mk hM5
              have HG6 := Aside0.mk (show w3.grownBy w5 (some b) from impl_spread_left.grown_trans HG5.out hG5)
              have R7 := Aside0.mk (Kd.R_grown R6.out hG5 (fun k hk e => by have h1 := Option.some.inj e; have h2 := BP.out; omega))
              clear hM5 hG5 hx0 hx1 hx2 X4 M5 B5 R6 HG5
              obtain ⟨nn, hnn⟩ : ∃ nn, nn = impl_spread_left.D a0 l1 (impl_spread_left.bh set r) := ⟨_, rfl⟩
              rw [← hnn]
              have HNN := Aside0.mk hnn
              clear hnn
              by_cases he : nn = (d : Int)
              · have e1 : (nn == (d : Int)) = true := beq_iff_eq.mpr he
                have e2 : (nn = (d : Int)) = True := eq_true he
                have e3 : decide (nn = (d : Int)) = true := decide_eq_true he
                have HE2 := Aside0.mk (show impl_FirstSpread.W a0 l1 d (impl_spread_left.bh set r) (out ++ [r]) = r1 by rw [← HE.out, HDR.out]; exact (impl_FirstSpread.after_yes (HNN.out.symm.trans he)).symm)
                have hp3 : p < w3.heap.size := World.block_lt_of_cell? w3 _ X3.out.1
                have hgb : ∀ k, k ≠ b → k < w3.heap.size → w5.heap[k]? = w3.heap[k]? := fun k h1 h2 => HG6.out.block k h2 (fun e => h1 (Option.some.inj e))
                have X5 := Aside0.mk (show w5.cell? ⟨p, 0, none⟩ = some (.int .i64 a0) ∧ w5.cell? ⟨p, 1, none⟩ = some (.slice A1 l1.length c1) ∧ w5.cell? ⟨p, 2, none⟩ = some (.map (some b)) from ⟨impl_spread_left.cell_eq X3.out.1 (hgb p HPB.out.1 hp3), impl_spread_left.cell_eq X3.out.2.1 (hgb p HPB.out.1 hp3), impl_spread_left.cell_eq X3.out.2.2 (hgb p HPB.out.1 hp3)⟩)
                have O5 := Aside0.mk (Kd.S_grown O3.out HG6.out (fun k hk e => hk.1.1 (Option.some.inj e)))
                have B6 := Aside0.mk (show Below w.heap.size w w5 from B3.out.trans ⟨HG6.out.os, HG6.out.tape, HG6.out.output, HG6.out.size, fun i hi => HG6.out.block i (Nat.lt_of_lt_of_le hi B3.out.size) (fun e => by have h1 := Option.some.inj e; have h2 := HPB.out; omega)⟩)
                have BP5 := Aside0.mk (show p < w5.heap.size ∧ b < w5.heap.size ∧ s0 ≤ w5.heap.size from ⟨World.block_lt_of_cell? w5 _ X5.out.1, M6.out.choose_spec.1.lt, Nat.le_trans BP.out.2.1 HG6.out.size⟩)
                clear he hp3 hgb
                go_wp2_with ((with_reducible refine gate_builtin (b := .append) (xs := #[.tmp 54, .tmp 56]) rfl ?_); at_builtin; refine Kd.S_append (Kd.slice 54 k54) (w0 := w) w.heap.size rfl (.tmp 54) (.tmp 56) 37 26 (.slice none 0 0) 24 rfl Try.underlying37 info26 rfl (by decide) (by decide) u12 out r [.slice A5 r.length c5] (fun k => k ≠ b ∧ k ≠ p) (fun k => s0 ≤ k) rfl rfl ?aP ?aK ?aF ?aO ?aB ?aS ?aL ?_; (case aP => exact ⟨_, rfl, Kd.R_lower R7.out BP.out.2.2⟩); (case aK => exact (fun k hk => ⟨⟨fun e => by have := BP.out; omega, fun e => by have := BP.out; omega⟩, fun e => by have h1 := (O5.out.choose_spec.1 k e.symm).2; omega⟩)); (case aF => exact (fun k hk => ⟨fun e => by have := BP5.out; omega, fun e => by have := BP5.out; omega⟩)); (case aO => exact Kd.S_mono O5.out (fun k hk => ⟨hk.1, Nat.not_le.2 hk.2⟩)); (case aB => exact B6.out); (case aS => exact B6.out.size); (case aL => have := HD.out.2; omega); intro V1 w6 hS1 hB1 hg1 hat1)
                have hsel : ∀ k, k = b ∨ k = p → some k ≠ u12.ownBlock := fun k hk e => by
                  have h1 := (O5.out.choose_spec.1 k e.symm).1
                  rcases hk with rfl | rfl
                  · exact h1.1 rfl
                  · exact h1.2 rfl
                have X6 := Aside0.mk (show w6.cell? ⟨p, 0, none⟩ = some (.int .i64 a0) ∧ w6.cell? ⟨p, 1, none⟩ = some (.slice A1 l1.length c1) ∧ w6.cell? ⟨p, 2, none⟩ = some (.map (some b)) from by
                  have hb := hg1.block p BP5.out.1 (hsel p (.inr rfl))
                  exact ⟨impl_spread_left.cell_eq X5.out.1 hb, impl_spread_left.cell_eq X5.out.2.1 hb, impl_spread_left.cell_eq X5.out.2.2 hb⟩)
                have M7 := Aside0.mk (M6.out.grown hg1 (hsel b (.inl rfl)))
                have S7 := Aside0.mk hS1
                have B7 := Aside0.mk hB1
                have hwd : wrap64 ((d : Int) - 1) = (d : Int) - 1 := by have := HD.out; unfold wrap64; omega
                clear hS1 hB1 hg1 hat1 hsel
                go_roundg (d + 2)
                case measure => have := HG.out; omega
                case rel => exact ⟨d, impl_spread_left.bh set r, (d : Int) - 1, out ++ [r], rfl, by rw [hwd], ⟨rfl⟩, ⟨Nat.le_refl _⟩, HI2, ⟨by have := HD.out; omega, by have := HD.out; simp; omega⟩, HE2, S7, M7, X6, B7⟩
              · have e1 : (nn == (d : Int)) = false := beq_eq_false_iff_ne.mpr he
                have e2 : (nn = (d : Int)) = False := eq_false he
                have e3 : decide (nn = (d : Int)) = false := decide_eq_false he
                have HE2 := Aside0.mk (show impl_FirstSpread.after a0 l1 d set out (rows.drop (y + 1)) = r1 by rw [← HE.out, HDR.out]; exact (impl_FirstSpread.after_no (fun e => he (HNN.out.trans e))).symm)
                have HWY := Aside0.mk (show wrap64 ((y : Int) + 1) = ((y + 1 : Nat) : Int) by have := HYY.out; have := HRL.out; unfold wrap64; omega)
                clear he
                go_wp2
                go_roundg (rows.length + 1 - (y + 1))
                case measure => have := HY.out; have := HYY.out; omega
                case rel => exact ⟨y + 1, rfl, rfl, by rw [HWY.out], ⟨by have := HYY.out; omega, by omega⟩, HE2, M6, HG6⟩
            · have y1 : decide ((y : Int) < (rows.length : Int)) = false := decide_eq_false (by omega)
              have y2 : ((y : Int) < (rows.length : Int)) = False := eq_false (by omega)
              have y3 : (y < rows.length) = False := eq_false hy
              have HE2 := Aside0.mk (show impl_FirstSpread.W a0 l1 d set out = r1 by rw [← HE.out, List.drop_eq_nil_of_le (by omega)]; rfl)
              have O5 := Aside0.mk (Kd.S_mono (Kd.S_grown O3.out HGW.out (fun k hk e => hk.1.1 (Option.some.inj e))) (fun _ hk => hk.1))
              have HB4 := Aside0.mk (show Below w.heap.size w wr from B3.out.trans ⟨HGW.out.os, HGW.out.tape, HGW.out.output, HGW.out.size, fun i hi => HGW.out.block i (Nat.lt_of_lt_of_le hi B3.out.size) (fun e => by have h1 := Option.some.inj e; have h2 := HPB.out; omega)⟩)
              have hwd : wrap64 ((d : Int) - 1) = (d : Int) - 1 := by have := HD.out; unfold wrap64; omega
              have X6 := Aside0.mk (And.intro hx0 (And.intro hx1 hx2))
              clear hy hgb hp3 hx0 hx1 hx2
              go_wp2
              go_roundg (d + 2)
              case measure => have := HG.out; omega
              case rel => exact ⟨d, set, (d : Int) - 1, out, rfl, by rw [hwd], ⟨rfl⟩, ⟨Nat.le_refl _⟩, HI, ⟨by have := HD.out; omega, by have := HD.out; omega⟩, HE2, O5, M4, X6, HB4⟩
    refine three_ (i := 2) (j := 5) (k := 6) (Ni := some 28) (Nj := some 31) (Nk := some 10) #[true, true, true, true, true, false, false, false, false, false] #[true, true, false, true, true, true, false, false, false, false] #[true, true, false, true, true, false, true, false, false, false] rfl rfl rfl rfl rfl rfl (three_of HT_.out (by kernel_rfl)) (by decide) (by decide) (by decide) (fun K hK => ?_) (fun K hK => ?_) (fun K hK => ?_)
    · refine goes_ Try.func36 (by kernel_rfl) rfl #[.int .i64 a0, .slice A1 l1.length c1] (by rfl) rfl rfl (by (try simp only [List.map_toArray, List.map_cons, List.map_nil]); rfl) ?_
      refine (impl_spreadOf.calls a0 A1 l1.length c1 W0).mono ?_
      rintro e W1 ⟨b, rfl, hbs, hbm, hb3⟩
      refine ⟨_, rfl, ?_⟩
      have FB := Aside0.mk (show w.heap.size ≤ b ∧ W1.heap[b]? = some (.map #[] 0) from ⟨Nat.le_trans BW.out.size hbs, hbm⟩)
      have BWn := Aside0.mk (below_step BW.out hb3); clear BW; have BW := BWn; clear BWn hbs hbm hb3
      refine hK.out _ _ trivial (fun _ => ?_)
      clear hK K
      refine norm_ (a' := ?_) ?_ ?_
      rotate_left
      · show Act.put _ (some 28) _ = _
        simp only [Act.put, List.setIfInBounds_toArray, List.set_cons_zero, List.set_cons_succ, i64_w, i32_w]
        rfl
      refine two_ (i := 5) (j := 6) (Ni := some 31) (Nj := some 10) #[true, true, true, true, true, true, false, false, false, false] #[true, true, true, true, true, false, true, false, false, false] rfl rfl rfl rfl (two_of HT_.out (by kernel_rfl)) (by decide) (by decide) (fun K hK => ?_) (fun K hK => ?_)
      · refine value_ (v := (.slice (some ⟨W1.heap.size, 0, none⟩) 0 0)) (w1 := W1.alloc (.cells #[] 26)) (by rfl) rfl ?_ ?_
        · first | (go_simp; done) | (go_simp; rfl)
        obtain ⟨g, hg⟩ : ∃ g, g = W1.heap.size := ⟨_, rfl⟩
        have FGm := heap_alloc_new W1 (.cells #[] 26)
        obtain ⟨W2, hW2⟩ : ∃ z, z = W1.alloc (.cells #[] 26) := ⟨_, rfl⟩
        have FBn := Aside0.mk (show w.heap.size ≤ b ∧ W2.heap[b]? = some (.map #[] 0) from ⟨FB.out.1, ((show W2.heap[b]? = W1.heap[b]? from by rw [hW2]; exact heap_alloc_old W1 (.cells #[] 26) (Array.getElem?_eq_some_iff.1 FB.out.2).1)).trans FB.out.2⟩); clear FB; have FB := FBn; clear FBn
        have FG := Aside0.mk (show w.heap.size ≤ g ∧ W2.heap[g]? = some (.cells #[] 26 (0, 0)) from ⟨by rw [hg]; exact BW.out.size, by rw [hW2, hg]; exact FGm⟩)
        have BWn := Aside0.mk (show Below w.heap.size w W2 by rw [hW2]; exact below_alloc BW.out (.cells #[] 26)); clear BW; have BW := BWn; clear BWn FGm
        rw [← hg, ← hW2]
        clear hg hW2
        refine hK.out _ _ trivial (fun _ => ?_)
        clear hK K
        refine norm_ (a' := ?_) ?_ ?_
        rotate_left
        · show Act.put _ (some 31) _ = _
          simp only [Act.put, List.setIfInBounds_toArray, List.set_cons_zero, List.set_cons_succ, i64_w, i32_w]
          rfl
        refine one_ (i := 6) (N := some 10) #[true, true, true, true, true, true, true, false, false, false] rfl rfl (one_of HT_.out (by kernel_rfl)) (by decide) (fun K hK => ?_)
        refine value_ (v := (.pointer (some ⟨W2.heap.size, 0, none⟩))) (w1 := W2.alloc (.cells #[.int .i64 0, .slice none 0 0, .map none] 61)) (by rfl) rfl ?_ ?_
        · first | (go_simp; done) | (go_simp; rfl)
        obtain ⟨p, hp⟩ : ∃ p, p = W2.heap.size := ⟨_, rfl⟩
        have FPm := heap_alloc_new W2 (.cells #[.int .i64 0, .slice none 0 0, .map none] 61)
        obtain ⟨W3, hW3⟩ : ∃ z, z = W2.alloc (.cells #[.int .i64 0, .slice none 0 0, .map none] 61) := ⟨_, rfl⟩
        have FBn := Aside0.mk (show w.heap.size ≤ b ∧ W3.heap[b]? = some (.map #[] 0) from ⟨FB.out.1, ((show W3.heap[b]? = W2.heap[b]? from by rw [hW3]; exact heap_alloc_old W2 (.cells #[.int .i64 0, .slice none 0 0, .map none] 61) (Array.getElem?_eq_some_iff.1 FB.out.2).1)).trans FB.out.2⟩); clear FB; have FB := FBn; clear FBn
        have FGn := Aside0.mk (show w.heap.size ≤ g ∧ W3.heap[g]? = some (.cells #[] 26 (0, 0)) from ⟨FG.out.1, ((show W3.heap[g]? = W2.heap[g]? from by rw [hW3]; exact heap_alloc_old W2 (.cells #[.int .i64 0, .slice none 0 0, .map none] 61) (Array.getElem?_eq_some_iff.1 FG.out.2).1)).trans FG.out.2⟩); clear FG; have FG := FGn; clear FGn
        have FP := Aside0.mk (show w.heap.size ≤ p ∧ W3.heap[p]? = some (.cells #[.int .i64 0, .slice none 0 0, .map none] 61 (0, 0)) from ⟨by rw [hp]; exact BW.out.size, by rw [hW3, hp]; exact FPm⟩)
        have BWn := Aside0.mk (show Below w.heap.size w W3 by rw [hW3]; exact below_alloc BW.out (.cells #[.int .i64 0, .slice none 0 0, .map none] 61)); clear BW; have BW := BWn; clear BWn FPm
        rw [← hp, ← hW3]
        clear hp hW3
        refine hK.out _ _ trivial (fun _ => ?_)
        clear hK K
        refine norm_ (a' := ?_) ?_ ?_
        rotate_left
        · show Act.put _ (some 10) _ = _
          simp only [Act.put, List.setIfInBounds_toArray, List.set_cons_zero, List.set_cons_succ, i64_w, i32_w]
          rfl
        refine one_ (i := 7) (N := none) #[true, true, true, true, true, true, true, true, false, false] rfl rfl (one_of HT_.out (by kernel_rfl)) (by decide) (fun K hK => ?_)
        have q0 := FP.out.2
        have q1 := blk_set q0 0 (.int .i64 a0)
        have q2 := blk_set q1 1 (.slice A1 l1.length c1)
        have q3 := blk_set q2 2 (.map (some b))
        refine skip_ (w1 := (((W3.setCell ⟨p, 0, none⟩ (.int .i64 a0)).setCell ⟨p, 1, none⟩ (.slice A1 l1.length c1)).setCell ⟨p, 2, none⟩ (.map (some b)))) (by rfl) rfl ?_ ?_
        · have x0 := (blk_cell q0 0).trans rfl
          have x1 := (blk_cell q1 1).trans rfl
          have x2 := (blk_cell q2 2).trans rfl
          have y0 := blk_frozen q0 0
          have y1 := blk_frozen q1 1
          have y2 := blk_frozen q2 2
          go_simp
        have hne : ∀ x (o : Obj), W3.heap[x]? = some o → (∀ cs, o ≠ .cells cs 61 (0, 0)) → (((W3.setCell ⟨p, 0, none⟩ (.int .i64 a0)).setCell ⟨p, 1, none⟩ (.slice A1 l1.length c1)).setCell ⟨p, 2, none⟩ (.map (some b))).heap[x]? = W3.heap[x]? := fun x o hx hn => by
          have hx2 : x ≠ p := fun e => by rw [e, q0] at hx; exact hn _ (Option.some.inj hx).symm
          rw [Below.heap_setCell _ _ _ _ hx2, Below.heap_setCell _ _ _ _ hx2, Below.heap_setCell _ _ _ _ hx2]
        have BWn := Aside0.mk (show Below w.heap.size w (((W3.setCell ⟨p, 0, none⟩ (.int .i64 a0)).setCell ⟨p, 1, none⟩ (.slice A1 l1.length c1)).setCell ⟨p, 2, none⟩ (.map (some b))) from ((BW.out.setCell (p := ⟨p, 0, none⟩) FP.out.1 _).setCell (p := ⟨p, 1, none⟩) FP.out.1 _).setCell (p := ⟨p, 2, none⟩) FP.out.1 _); clear BW; have BW := BWn; clear BWn
        obtain ⟨W4, hW4⟩ : ∃ z, z = (((W3.setCell ⟨p, 0, none⟩ (.int .i64 a0)).setCell ⟨p, 1, none⟩ (.slice A1 l1.length c1)).setCell ⟨p, 2, none⟩ (.map (some b))) := ⟨_, rfl⟩
        rw [← hW4] at BW hne q3 ⊢
        have FBn := Aside0.mk (show w.heap.size ≤ b ∧ W4.heap[b]? = some (.map #[] 0) from ⟨FB.out.1, (hne b _ FB.out.2 (fun cs e => by cases e)).trans FB.out.2⟩); clear FB; have FB := FBn; clear FBn
        have FGn := Aside0.mk (show w.heap.size ≤ g ∧ W4.heap[g]? = some (.cells #[] 26 (0, 0)) from ⟨FG.out.1, (hne g _ FG.out.2 (fun cs e => by cases e)).trans FG.out.2⟩); clear FG; have FG := FGn; clear FGn
        have FPn := Aside0.mk (show w.heap.size ≤ p ∧ W4.heap[p]? = some (.cells #[.int .i64 a0, .slice A1 l1.length c1, .map (some b)] 61 (0, 0)) from ⟨FP.out.1, q3⟩); clear FP; have FP := FPn; clear FPn hne q0 q1 q2 q3 hW4
        refine hK.out _ _ trivial (fun _ => ?_)
        clear hK K
        refine pure_ (i := 8) (N := some 11) (v := ?_) (a' := ?_) #[true, true, true, true, true, true, true, true, true, false] rfl rfl (any_of HT_.out (by kernel_rfl)) (fun _ _ _ h => h) (Or.inl ⟨by rfl, ?_⟩) ?_ ?_
        rotate_left
        · intro w'
          go_simp
          with_reducible rfl
        rotate_left
        · simp only [Act.put, List.setIfInBounds_toArray, List.set_cons_zero, List.set_cons_succ, i64_w, i32_w]
          rfl
        exact hjoin ⟨b, g, p⟩ _ ⟨BW, FB, FG, FP⟩
      · refine value_ (v := (.pointer (some ⟨W1.heap.size, 0, none⟩))) (w1 := W1.alloc (.cells #[.int .i64 0, .slice none 0 0, .map none] 61)) (by rfl) rfl ?_ ?_
        · first | (go_simp; done) | (go_simp; rfl)
        obtain ⟨p, hp⟩ : ∃ p, p = W1.heap.size := ⟨_, rfl⟩
        have FPm := heap_alloc_new W1 (.cells #[.int .i64 0, .slice none 0 0, .map none] 61)
        obtain ⟨W2, hW2⟩ : ∃ z, z = W1.alloc (.cells #[.int .i64 0, .slice none 0 0, .map none] 61) := ⟨_, rfl⟩
        have FBn := Aside0.mk (show w.heap.size ≤ b ∧ W2.heap[b]? = some (.map #[] 0) from ⟨FB.out.1, ((show W2.heap[b]? = W1.heap[b]? from by rw [hW2]; exact heap_alloc_old W1 (.cells #[.int .i64 0, .slice none 0 0, .map none] 61) (Array.getElem?_eq_some_iff.1 FB.out.2).1)).trans FB.out.2⟩); clear FB; have FB := FBn; clear FBn
        have FP := Aside0.mk (show w.heap.size ≤ p ∧ W2.heap[p]? = some (.cells #[.int .i64 0, .slice none 0 0, .map none] 61 (0, 0)) from ⟨by rw [hp]; exact BW.out.size, by rw [hW2, hp]; exact FPm⟩)
        have BWn := Aside0.mk (show Below w.heap.size w W2 by rw [hW2]; exact below_alloc BW.out (.cells #[.int .i64 0, .slice none 0 0, .map none] 61)); clear BW; have BW := BWn; clear BWn FPm
        rw [← hp, ← hW2]
        clear hp hW2
        refine hK.out _ _ trivial (fun _ => ?_)
        clear hK K
        refine norm_ (a' := ?_) ?_ ?_
        rotate_left
        · show Act.put _ (some 10) _ = _
          simp only [Act.put, List.setIfInBounds_toArray, List.set_cons_zero, List.set_cons_succ, i64_w, i32_w]
          rfl
        refine two_ (i := 5) (j := 7) (Ni := some 31) (Nj := none) #[true, true, true, true, true, true, true, false, false, false] #[true, true, true, true, true, false, true, true, false, false] rfl rfl rfl rfl (two_of HT_.out (by kernel_rfl)) (by decide) (by decide) (fun K hK => ?_) (fun K hK => ?_)
        · refine value_ (v := (.slice (some ⟨W2.heap.size, 0, none⟩) 0 0)) (w1 := W2.alloc (.cells #[] 26)) (by rfl) rfl ?_ ?_
          · first | (go_simp; done) | (go_simp; rfl)
          obtain ⟨g, hg⟩ : ∃ g, g = W2.heap.size := ⟨_, rfl⟩
          have FGm := heap_alloc_new W2 (.cells #[] 26)
          obtain ⟨W3, hW3⟩ : ∃ z, z = W2.alloc (.cells #[] 26) := ⟨_, rfl⟩
          have FBn := Aside0.mk (show w.heap.size ≤ b ∧ W3.heap[b]? = some (.map #[] 0) from ⟨FB.out.1, ((show W3.heap[b]? = W2.heap[b]? from by rw [hW3]; exact heap_alloc_old W2 (.cells #[] 26) (Array.getElem?_eq_some_iff.1 FB.out.2).1)).trans FB.out.2⟩); clear FB; have FB := FBn; clear FBn
          have FPn := Aside0.mk (show w.heap.size ≤ p ∧ W3.heap[p]? = some (.cells #[.int .i64 0, .slice none 0 0, .map none] 61 (0, 0)) from ⟨FP.out.1, ((show W3.heap[p]? = W2.heap[p]? from by rw [hW3]; exact heap_alloc_old W2 (.cells #[] 26) (Array.getElem?_eq_some_iff.1 FP.out.2).1)).trans FP.out.2⟩); clear FP; have FP := FPn; clear FPn
          have FG := Aside0.mk (show w.heap.size ≤ g ∧ W3.heap[g]? = some (.cells #[] 26 (0, 0)) from ⟨by rw [hg]; exact BW.out.size, by rw [hW3, hg]; exact FGm⟩)
          have BWn := Aside0.mk (show Below w.heap.size w W3 by rw [hW3]; exact below_alloc BW.out (.cells #[] 26)); clear BW; have BW := BWn; clear BWn FGm
          rw [← hg, ← hW3]
          clear hg hW3
          refine hK.out _ _ trivial (fun _ => ?_)
          clear hK K
          refine norm_ (a' := ?_) ?_ ?_
          rotate_left
          · show Act.put _ (some 31) _ = _
            simp only [Act.put, List.setIfInBounds_toArray, List.set_cons_zero, List.set_cons_succ, i64_w, i32_w]
            rfl
          refine one_ (i := 7) (N := none) #[true, true, true, true, true, true, true, true, false, false] rfl rfl (one_of HT_.out (by kernel_rfl)) (by decide) (fun K hK => ?_)
          have q0 := FP.out.2
          have q1 := blk_set q0 0 (.int .i64 a0)
          have q2 := blk_set q1 1 (.slice A1 l1.length c1)
          have q3 := blk_set q2 2 (.map (some b))
          refine skip_ (w1 := (((W3.setCell ⟨p, 0, none⟩ (.int .i64 a0)).setCell ⟨p, 1, none⟩ (.slice A1 l1.length c1)).setCell ⟨p, 2, none⟩ (.map (some b)))) (by rfl) rfl ?_ ?_
          · have x0 := (blk_cell q0 0).trans rfl
            have x1 := (blk_cell q1 1).trans rfl
            have x2 := (blk_cell q2 2).trans rfl
            have y0 := blk_frozen q0 0
            have y1 := blk_frozen q1 1
            have y2 := blk_frozen q2 2
            go_simp
          have hne : ∀ x (o : Obj), W3.heap[x]? = some o → (∀ cs, o ≠ .cells cs 61 (0, 0)) → (((W3.setCell ⟨p, 0, none⟩ (.int .i64 a0)).setCell ⟨p, 1, none⟩ (.slice A1 l1.length c1)).setCell ⟨p, 2, none⟩ (.map (some b))).heap[x]? = W3.heap[x]? := fun x o hx hn => by
            have hx2 : x ≠ p := fun e => by rw [e, q0] at hx; exact hn _ (Option.some.inj hx).symm
            rw [Below.heap_setCell _ _ _ _ hx2, Below.heap_setCell _ _ _ _ hx2, Below.heap_setCell _ _ _ _ hx2]
          have BWn := Aside0.mk (show Below w.heap.size w (((W3.setCell ⟨p, 0, none⟩ (.int .i64 a0)).setCell ⟨p, 1, none⟩ (.slice A1 l1.length c1)).setCell ⟨p, 2, none⟩ (.map (some b))) from ((BW.out.setCell (p := ⟨p, 0, none⟩) FP.out.1 _).setCell (p := ⟨p, 1, none⟩) FP.out.1 _).setCell (p := ⟨p, 2, none⟩) FP.out.1 _); clear BW; have BW := BWn; clear BWn
          obtain ⟨W4, hW4⟩ : ∃ z, z = (((W3.setCell ⟨p, 0, none⟩ (.int .i64 a0)).setCell ⟨p, 1, none⟩ (.slice A1 l1.length c1)).setCell ⟨p, 2, none⟩ (.map (some b))) := ⟨_, rfl⟩
          rw [← hW4] at BW hne q3 ⊢
          have FBn := Aside0.mk (show w.heap.size ≤ b ∧ W4.heap[b]? = some (.map #[] 0) from ⟨FB.out.1, (hne b _ FB.out.2 (fun cs e => by cases e)).trans FB.out.2⟩); clear FB; have FB := FBn; clear FBn
          have FGn := Aside0.mk (show w.heap.size ≤ g ∧ W4.heap[g]? = some (.cells #[] 26 (0, 0)) from ⟨FG.out.1, (hne g _ FG.out.2 (fun cs e => by cases e)).trans FG.out.2⟩); clear FG; have FG := FGn; clear FGn
          have FPn := Aside0.mk (show w.heap.size ≤ p ∧ W4.heap[p]? = some (.cells #[.int .i64 a0, .slice A1 l1.length c1, .map (some b)] 61 (0, 0)) from ⟨FP.out.1, q3⟩); clear FP; have FP := FPn; clear FPn hne q0 q1 q2 q3 hW4
          refine hK.out _ _ trivial (fun _ => ?_)
          clear hK K
          refine pure_ (i := 8) (N := some 11) (v := ?_) (a' := ?_) #[true, true, true, true, true, true, true, true, true, false] rfl rfl (any_of HT_.out (by kernel_rfl)) (fun _ _ _ h => h) (Or.inl ⟨by rfl, ?_⟩) ?_ ?_
          rotate_left
          · intro w'
            go_simp
            with_reducible rfl
          rotate_left
          · simp only [Act.put, List.setIfInBounds_toArray, List.set_cons_zero, List.set_cons_succ, i64_w, i32_w]
            rfl
          exact hjoin ⟨b, g, p⟩ _ ⟨BW, FB, FG, FP⟩
        · have q0 := FP.out.2
          have q1 := blk_set q0 0 (.int .i64 a0)
          have q2 := blk_set q1 1 (.slice A1 l1.length c1)
          have q3 := blk_set q2 2 (.map (some b))
          refine skip_ (w1 := (((W2.setCell ⟨p, 0, none⟩ (.int .i64 a0)).setCell ⟨p, 1, none⟩ (.slice A1 l1.length c1)).setCell ⟨p, 2, none⟩ (.map (some b)))) (by rfl) rfl ?_ ?_
          · have x0 := (blk_cell q0 0).trans rfl
            have x1 := (blk_cell q1 1).trans rfl
            have x2 := (blk_cell q2 2).trans rfl
            have y0 := blk_frozen q0 0
            have y1 := blk_frozen q1 1
            have y2 := blk_frozen q2 2
            go_simp
          have hne : ∀ x (o : Obj), W2.heap[x]? = some o → (∀ cs, o ≠ .cells cs 61 (0, 0)) → (((W2.setCell ⟨p, 0, none⟩ (.int .i64 a0)).setCell ⟨p, 1, none⟩ (.slice A1 l1.length c1)).setCell ⟨p, 2, none⟩ (.map (some b))).heap[x]? = W2.heap[x]? := fun x o hx hn => by
            have hx2 : x ≠ p := fun e => by rw [e, q0] at hx; exact hn _ (Option.some.inj hx).symm
            rw [Below.heap_setCell _ _ _ _ hx2, Below.heap_setCell _ _ _ _ hx2, Below.heap_setCell _ _ _ _ hx2]
          have BWn := Aside0.mk (show Below w.heap.size w (((W2.setCell ⟨p, 0, none⟩ (.int .i64 a0)).setCell ⟨p, 1, none⟩ (.slice A1 l1.length c1)).setCell ⟨p, 2, none⟩ (.map (some b))) from ((BW.out.setCell (p := ⟨p, 0, none⟩) FP.out.1 _).setCell (p := ⟨p, 1, none⟩) FP.out.1 _).setCell (p := ⟨p, 2, none⟩) FP.out.1 _); clear BW; have BW := BWn; clear BWn
          obtain ⟨W3, hW3⟩ : ∃ z, z = (((W2.setCell ⟨p, 0, none⟩ (.int .i64 a0)).setCell ⟨p, 1, none⟩ (.slice A1 l1.length c1)).setCell ⟨p, 2, none⟩ (.map (some b))) := ⟨_, rfl⟩
          rw [← hW3] at BW hne q3 ⊢
          have FBn := Aside0.mk (show w.heap.size ≤ b ∧ W3.heap[b]? = some (.map #[] 0) from ⟨FB.out.1, (hne b _ FB.out.2 (fun cs e => by cases e)).trans FB.out.2⟩); clear FB; have FB := FBn; clear FBn
          have FPn := Aside0.mk (show w.heap.size ≤ p ∧ W3.heap[p]? = some (.cells #[.int .i64 a0, .slice A1 l1.length c1, .map (some b)] 61 (0, 0)) from ⟨FP.out.1, q3⟩); clear FP; have FP := FPn; clear FPn hne q0 q1 q2 q3 hW3
          refine hK.out _ _ trivial (fun _ => ?_)
          clear hK K
          refine pure_ (i := 8) (N := some 11) (v := ?_) (a' := ?_) #[true, true, true, true, true, false, true, true, true, false] rfl rfl (any_of HT_.out (by kernel_rfl)) (fun _ _ _ h => h) (Or.inl ⟨by rfl, ?_⟩) ?_ ?_
          rotate_left
          · intro w'
            go_simp
            with_reducible rfl
          rotate_left
          · simp only [Act.put, List.setIfInBounds_toArray, List.set_cons_zero, List.set_cons_succ, i64_w, i32_w]
            rfl
          refine one_ (i := 5) (N := some 31) #[true, true, true, true, true, true, true, true, true, false] rfl rfl (one_of HT_.out (by kernel_rfl)) (by decide) (fun K hK => ?_)
          refine value_ (v := (.slice (some ⟨W3.heap.size, 0, none⟩) 0 0)) (w1 := W3.alloc (.cells #[] 26)) (by rfl) rfl ?_ ?_
          · first | (go_simp; done) | (go_simp; rfl)
          obtain ⟨g, hg⟩ : ∃ g, g = W3.heap.size := ⟨_, rfl⟩
          have FGm := heap_alloc_new W3 (.cells #[] 26)
          obtain ⟨W4, hW4⟩ : ∃ z, z = W3.alloc (.cells #[] 26) := ⟨_, rfl⟩
          have FBn := Aside0.mk (show w.heap.size ≤ b ∧ W4.heap[b]? = some (.map #[] 0) from ⟨FB.out.1, ((show W4.heap[b]? = W3.heap[b]? from by rw [hW4]; exact heap_alloc_old W3 (.cells #[] 26) (Array.getElem?_eq_some_iff.1 FB.out.2).1)).trans FB.out.2⟩); clear FB; have FB := FBn; clear FBn
          have FPn := Aside0.mk (show w.heap.size ≤ p ∧ W4.heap[p]? = some (.cells #[.int .i64 a0, .slice A1 l1.length c1, .map (some b)] 61 (0, 0)) from ⟨FP.out.1, ((show W4.heap[p]? = W3.heap[p]? from by rw [hW4]; exact heap_alloc_old W3 (.cells #[] 26) (Array.getElem?_eq_some_iff.1 FP.out.2).1)).trans FP.out.2⟩); clear FP; have FP := FPn; clear FPn
          have FG := Aside0.mk (show w.heap.size ≤ g ∧ W4.heap[g]? = some (.cells #[] 26 (0, 0)) from ⟨by rw [hg]; exact BW.out.size, by rw [hW4, hg]; exact FGm⟩)
          have BWn := Aside0.mk (show Below w.heap.size w W4 by rw [hW4]; exact below_alloc BW.out (.cells #[] 26)); clear BW; have BW := BWn; clear BWn FGm
          rw [← hg, ← hW4]
          clear hg hW4
          refine hK.out _ _ trivial (fun _ => ?_)
          clear hK K
          refine norm_ (a' := ?_) ?_ ?_
          rotate_left
          · show Act.put _ (some 31) _ = _
            simp only [Act.put, List.setIfInBounds_toArray, List.set_cons_zero, List.set_cons_succ, i64_w, i32_w]
            rfl
          exact hjoin ⟨b, g, p⟩ _ ⟨BW, FB, FG, FP⟩
    · refine value_ (v := (.slice (some ⟨W0.heap.size, 0, none⟩) 0 0)) (w1 := W0.alloc (.cells #[] 26)) (by rfl) rfl ?_ ?_
      · first | (go_simp; done) | (go_simp; rfl)
      obtain ⟨g, hg⟩ : ∃ g, g = W0.heap.size := ⟨_, rfl⟩
      have FGm := heap_alloc_new W0 (.cells #[] 26)
      obtain ⟨W1, hW1⟩ : ∃ z, z = W0.alloc (.cells #[] 26) := ⟨_, rfl⟩
      have FG := Aside0.mk (show w.heap.size ≤ g ∧ W1.heap[g]? = some (.cells #[] 26 (0, 0)) from ⟨by rw [hg]; exact BW.out.size, by rw [hW1, hg]; exact FGm⟩)
      have BWn := Aside0.mk (show Below w.heap.size w W1 by rw [hW1]; exact below_alloc BW.out (.cells #[] 26)); clear BW; have BW := BWn; clear BWn FGm
      rw [← hg, ← hW1]
      clear hg hW1
      refine hK.out _ _ trivial (fun _ => ?_)
      clear hK K
      refine norm_ (a' := ?_) ?_ ?_
      rotate_left
      · show Act.put _ (some 31) _ = _
        simp only [Act.put, List.setIfInBounds_toArray, List.set_cons_zero, List.set_cons_succ, i64_w, i32_w]
        rfl
      refine two_ (i := 2) (j := 6) (Ni := some 28) (Nj := some 10) #[true, true, true, true, true, true, false, false, false, false] #[true, true, false, true, true, true, true, false, false, false] rfl rfl rfl rfl (two_of HT_.out (by kernel_rfl)) (by decide) (by decide) (fun K hK => ?_) (fun K hK => ?_)
      · refine goes_ Try.func36 (by kernel_rfl) rfl #[.int .i64 a0, .slice A1 l1.length c1] (by rfl) rfl rfl (by (try simp only [List.map_toArray, List.map_cons, List.map_nil]); rfl) ?_
        refine (impl_spreadOf.calls a0 A1 l1.length c1 W1).mono ?_
        rintro e W2 ⟨b, rfl, hbs, hbm, hb3⟩
        refine ⟨_, rfl, ?_⟩
        have FGn := Aside0.mk (show w.heap.size ≤ g ∧ W2.heap[g]? = some (.cells #[] 26 (0, 0)) from ⟨FG.out.1, (hb3.block g (Array.getElem?_eq_some_iff.1 FG.out.2).1).trans FG.out.2⟩); clear FG; have FG := FGn; clear FGn
        have FB := Aside0.mk (show w.heap.size ≤ b ∧ W2.heap[b]? = some (.map #[] 0) from ⟨Nat.le_trans BW.out.size hbs, hbm⟩)
        have BWn := Aside0.mk (below_step BW.out hb3); clear BW; have BW := BWn; clear BWn hbs hbm hb3
        refine hK.out _ _ trivial (fun _ => ?_)
        clear hK K
        refine norm_ (a' := ?_) ?_ ?_
        rotate_left
        · show Act.put _ (some 28) _ = _
          simp only [Act.put, List.setIfInBounds_toArray, List.set_cons_zero, List.set_cons_succ, i64_w, i32_w]
          rfl
        refine one_ (i := 6) (N := some 10) #[true, true, true, true, true, true, true, false, false, false] rfl rfl (one_of HT_.out (by kernel_rfl)) (by decide) (fun K hK => ?_)
        refine value_ (v := (.pointer (some ⟨W2.heap.size, 0, none⟩))) (w1 := W2.alloc (.cells #[.int .i64 0, .slice none 0 0, .map none] 61)) (by rfl) rfl ?_ ?_
        · first | (go_simp; done) | (go_simp; rfl)
        obtain ⟨p, hp⟩ : ∃ p, p = W2.heap.size := ⟨_, rfl⟩
        have FPm := heap_alloc_new W2 (.cells #[.int .i64 0, .slice none 0 0, .map none] 61)
        obtain ⟨W3, hW3⟩ : ∃ z, z = W2.alloc (.cells #[.int .i64 0, .slice none 0 0, .map none] 61) := ⟨_, rfl⟩
        have FBn := Aside0.mk (show w.heap.size ≤ b ∧ W3.heap[b]? = some (.map #[] 0) from ⟨FB.out.1, ((show W3.heap[b]? = W2.heap[b]? from by rw [hW3]; exact heap_alloc_old W2 (.cells #[.int .i64 0, .slice none 0 0, .map none] 61) (Array.getElem?_eq_some_iff.1 FB.out.2).1)).trans FB.out.2⟩); clear FB; have FB := FBn; clear FBn
        have FGn := Aside0.mk (show w.heap.size ≤ g ∧ W3.heap[g]? = some (.cells #[] 26 (0, 0)) from ⟨FG.out.1, ((show W3.heap[g]? = W2.heap[g]? from by rw [hW3]; exact heap_alloc_old W2 (.cells #[.int .i64 0, .slice none 0 0, .map none] 61) (Array.getElem?_eq_some_iff.1 FG.out.2).1)).trans FG.out.2⟩); clear FG; have FG := FGn; clear FGn
        have FP := Aside0.mk (show w.heap.size ≤ p ∧ W3.heap[p]? = some (.cells #[.int .i64 0, .slice none 0 0, .map none] 61 (0, 0)) from ⟨by rw [hp]; exact BW.out.size, by rw [hW3, hp]; exact FPm⟩)
        have BWn := Aside0.mk (show Below w.heap.size w W3 by rw [hW3]; exact below_alloc BW.out (.cells #[.int .i64 0, .slice none 0 0, .map none] 61)); clear BW; have BW := BWn; clear BWn FPm
        rw [← hp, ← hW3]
        clear hp hW3
        refine hK.out _ _ trivial (fun _ => ?_)
        clear hK K
        refine norm_ (a' := ?_) ?_ ?_
        rotate_left
        · show Act.put _ (some 10) _ = _
          simp only [Act.put, List.setIfInBounds_toArray, List.set_cons_zero, List.set_cons_succ, i64_w, i32_w]
          rfl
        refine one_ (i := 7) (N := none) #[true, true, true, true, true, true, true, true, false, false] rfl rfl (one_of HT_.out (by kernel_rfl)) (by decide) (fun K hK => ?_)
        have q0 := FP.out.2
        have q1 := blk_set q0 0 (.int .i64 a0)
        have q2 := blk_set q1 1 (.slice A1 l1.length c1)
        have q3 := blk_set q2 2 (.map (some b))
        refine skip_ (w1 := (((W3.setCell ⟨p, 0, none⟩ (.int .i64 a0)).setCell ⟨p, 1, none⟩ (.slice A1 l1.length c1)).setCell ⟨p, 2, none⟩ (.map (some b)))) (by rfl) rfl ?_ ?_
        · have x0 := (blk_cell q0 0).trans rfl
          have x1 := (blk_cell q1 1).trans rfl
          have x2 := (blk_cell q2 2).trans rfl
          have y0 := blk_frozen q0 0
          have y1 := blk_frozen q1 1
          have y2 := blk_frozen q2 2
          go_simp
        have hne : ∀ x (o : Obj), W3.heap[x]? = some o → (∀ cs, o ≠ .cells cs 61 (0, 0)) → (((W3.setCell ⟨p, 0, none⟩ (.int .i64 a0)).setCell ⟨p, 1, none⟩ (.slice A1 l1.length c1)).setCell ⟨p, 2, none⟩ (.map (some b))).heap[x]? = W3.heap[x]? := fun x o hx hn => by
          have hx2 : x ≠ p := fun e => by rw [e, q0] at hx; exact hn _ (Option.some.inj hx).symm
          rw [Below.heap_setCell _ _ _ _ hx2, Below.heap_setCell _ _ _ _ hx2, Below.heap_setCell _ _ _ _ hx2]
        have BWn := Aside0.mk (show Below w.heap.size w (((W3.setCell ⟨p, 0, none⟩ (.int .i64 a0)).setCell ⟨p, 1, none⟩ (.slice A1 l1.length c1)).setCell ⟨p, 2, none⟩ (.map (some b))) from ((BW.out.setCell (p := ⟨p, 0, none⟩) FP.out.1 _).setCell (p := ⟨p, 1, none⟩) FP.out.1 _).setCell (p := ⟨p, 2, none⟩) FP.out.1 _); clear BW; have BW := BWn; clear BWn
        obtain ⟨W4, hW4⟩ : ∃ z, z = (((W3.setCell ⟨p, 0, none⟩ (.int .i64 a0)).setCell ⟨p, 1, none⟩ (.slice A1 l1.length c1)).setCell ⟨p, 2, none⟩ (.map (some b))) := ⟨_, rfl⟩
        rw [← hW4] at BW hne q3 ⊢
        have FBn := Aside0.mk (show w.heap.size ≤ b ∧ W4.heap[b]? = some (.map #[] 0) from ⟨FB.out.1, (hne b _ FB.out.2 (fun cs e => by cases e)).trans FB.out.2⟩); clear FB; have FB := FBn; clear FBn
        have FGn := Aside0.mk (show w.heap.size ≤ g ∧ W4.heap[g]? = some (.cells #[] 26 (0, 0)) from ⟨FG.out.1, (hne g _ FG.out.2 (fun cs e => by cases e)).trans FG.out.2⟩); clear FG; have FG := FGn; clear FGn
        have FPn := Aside0.mk (show w.heap.size ≤ p ∧ W4.heap[p]? = some (.cells #[.int .i64 a0, .slice A1 l1.length c1, .map (some b)] 61 (0, 0)) from ⟨FP.out.1, q3⟩); clear FP; have FP := FPn; clear FPn hne q0 q1 q2 q3 hW4
        refine hK.out _ _ trivial (fun _ => ?_)
        clear hK K
        refine pure_ (i := 8) (N := some 11) (v := ?_) (a' := ?_) #[true, true, true, true, true, true, true, true, true, false] rfl rfl (any_of HT_.out (by kernel_rfl)) (fun _ _ _ h => h) (Or.inl ⟨by rfl, ?_⟩) ?_ ?_
        rotate_left
        · intro w'
          go_simp
          with_reducible rfl
        rotate_left
        · simp only [Act.put, List.setIfInBounds_toArray, List.set_cons_zero, List.set_cons_succ, i64_w, i32_w]
          rfl
        exact hjoin ⟨b, g, p⟩ _ ⟨BW, FB, FG, FP⟩
      · refine value_ (v := (.pointer (some ⟨W1.heap.size, 0, none⟩))) (w1 := W1.alloc (.cells #[.int .i64 0, .slice none 0 0, .map none] 61)) (by rfl) rfl ?_ ?_
        · first | (go_simp; done) | (go_simp; rfl)
        obtain ⟨p, hp⟩ : ∃ p, p = W1.heap.size := ⟨_, rfl⟩
        have FPm := heap_alloc_new W1 (.cells #[.int .i64 0, .slice none 0 0, .map none] 61)
        obtain ⟨W2, hW2⟩ : ∃ z, z = W1.alloc (.cells #[.int .i64 0, .slice none 0 0, .map none] 61) := ⟨_, rfl⟩
        have FGn := Aside0.mk (show w.heap.size ≤ g ∧ W2.heap[g]? = some (.cells #[] 26 (0, 0)) from ⟨FG.out.1, ((show W2.heap[g]? = W1.heap[g]? from by rw [hW2]; exact heap_alloc_old W1 (.cells #[.int .i64 0, .slice none 0 0, .map none] 61) (Array.getElem?_eq_some_iff.1 FG.out.2).1)).trans FG.out.2⟩); clear FG; have FG := FGn; clear FGn
        have FP := Aside0.mk (show w.heap.size ≤ p ∧ W2.heap[p]? = some (.cells #[.int .i64 0, .slice none 0 0, .map none] 61 (0, 0)) from ⟨by rw [hp]; exact BW.out.size, by rw [hW2, hp]; exact FPm⟩)
        have BWn := Aside0.mk (show Below w.heap.size w W2 by rw [hW2]; exact below_alloc BW.out (.cells #[.int .i64 0, .slice none 0 0, .map none] 61)); clear BW; have BW := BWn; clear BWn FPm
        rw [← hp, ← hW2]
        clear hp hW2
        refine hK.out _ _ trivial (fun _ => ?_)
        clear hK K
        refine norm_ (a' := ?_) ?_ ?_
        rotate_left
        · show Act.put _ (some 10) _ = _
          simp only [Act.put, List.setIfInBounds_toArray, List.set_cons_zero, List.set_cons_succ, i64_w, i32_w]
          rfl
        refine one_ (i := 2) (N := some 28) #[true, true, true, true, true, true, true, false, false, false] rfl rfl (one_of HT_.out (by kernel_rfl)) (by decide) (fun K hK => ?_)
        refine goes_ Try.func36 (by kernel_rfl) rfl #[.int .i64 a0, .slice A1 l1.length c1] (by rfl) rfl rfl (by (try simp only [List.map_toArray, List.map_cons, List.map_nil]); rfl) ?_
        refine (impl_spreadOf.calls a0 A1 l1.length c1 W2).mono ?_
        rintro e W3 ⟨b, rfl, hbs, hbm, hb3⟩
        refine ⟨_, rfl, ?_⟩
        have FGn := Aside0.mk (show w.heap.size ≤ g ∧ W3.heap[g]? = some (.cells #[] 26 (0, 0)) from ⟨FG.out.1, (hb3.block g (Array.getElem?_eq_some_iff.1 FG.out.2).1).trans FG.out.2⟩); clear FG; have FG := FGn; clear FGn
        have FPn := Aside0.mk (show w.heap.size ≤ p ∧ W3.heap[p]? = some (.cells #[.int .i64 0, .slice none 0 0, .map none] 61 (0, 0)) from ⟨FP.out.1, (hb3.block p (Array.getElem?_eq_some_iff.1 FP.out.2).1).trans FP.out.2⟩); clear FP; have FP := FPn; clear FPn
        have FB := Aside0.mk (show w.heap.size ≤ b ∧ W3.heap[b]? = some (.map #[] 0) from ⟨Nat.le_trans BW.out.size hbs, hbm⟩)
        have BWn := Aside0.mk (below_step BW.out hb3); clear BW; have BW := BWn; clear BWn hbs hbm hb3
        refine hK.out _ _ trivial (fun _ => ?_)
        clear hK K
        refine norm_ (a' := ?_) ?_ ?_
        rotate_left
        · show Act.put _ (some 28) _ = _
          simp only [Act.put, List.setIfInBounds_toArray, List.set_cons_zero, List.set_cons_succ, i64_w, i32_w]
          rfl
        refine one_ (i := 7) (N := none) #[true, true, true, true, true, true, true, true, false, false] rfl rfl (one_of HT_.out (by kernel_rfl)) (by decide) (fun K hK => ?_)
        have q0 := FP.out.2
        have q1 := blk_set q0 0 (.int .i64 a0)
        have q2 := blk_set q1 1 (.slice A1 l1.length c1)
        have q3 := blk_set q2 2 (.map (some b))
        refine skip_ (w1 := (((W3.setCell ⟨p, 0, none⟩ (.int .i64 a0)).setCell ⟨p, 1, none⟩ (.slice A1 l1.length c1)).setCell ⟨p, 2, none⟩ (.map (some b)))) (by rfl) rfl ?_ ?_
        · have x0 := (blk_cell q0 0).trans rfl
          have x1 := (blk_cell q1 1).trans rfl
          have x2 := (blk_cell q2 2).trans rfl
          have y0 := blk_frozen q0 0
          have y1 := blk_frozen q1 1
          have y2 := blk_frozen q2 2
          go_simp
        have hne : ∀ x (o : Obj), W3.heap[x]? = some o → (∀ cs, o ≠ .cells cs 61 (0, 0)) → (((W3.setCell ⟨p, 0, none⟩ (.int .i64 a0)).setCell ⟨p, 1, none⟩ (.slice A1 l1.length c1)).setCell ⟨p, 2, none⟩ (.map (some b))).heap[x]? = W3.heap[x]? := fun x o hx hn => by
          have hx2 : x ≠ p := fun e => by rw [e, q0] at hx; exact hn _ (Option.some.inj hx).symm
          rw [Below.heap_setCell _ _ _ _ hx2, Below.heap_setCell _ _ _ _ hx2, Below.heap_setCell _ _ _ _ hx2]
        have BWn := Aside0.mk (show Below w.heap.size w (((W3.setCell ⟨p, 0, none⟩ (.int .i64 a0)).setCell ⟨p, 1, none⟩ (.slice A1 l1.length c1)).setCell ⟨p, 2, none⟩ (.map (some b))) from ((BW.out.setCell (p := ⟨p, 0, none⟩) FP.out.1 _).setCell (p := ⟨p, 1, none⟩) FP.out.1 _).setCell (p := ⟨p, 2, none⟩) FP.out.1 _); clear BW; have BW := BWn; clear BWn
        obtain ⟨W4, hW4⟩ : ∃ z, z = (((W3.setCell ⟨p, 0, none⟩ (.int .i64 a0)).setCell ⟨p, 1, none⟩ (.slice A1 l1.length c1)).setCell ⟨p, 2, none⟩ (.map (some b))) := ⟨_, rfl⟩
        rw [← hW4] at BW hne q3 ⊢
        have FBn := Aside0.mk (show w.heap.size ≤ b ∧ W4.heap[b]? = some (.map #[] 0) from ⟨FB.out.1, (hne b _ FB.out.2 (fun cs e => by cases e)).trans FB.out.2⟩); clear FB; have FB := FBn; clear FBn
        have FGn := Aside0.mk (show w.heap.size ≤ g ∧ W4.heap[g]? = some (.cells #[] 26 (0, 0)) from ⟨FG.out.1, (hne g _ FG.out.2 (fun cs e => by cases e)).trans FG.out.2⟩); clear FG; have FG := FGn; clear FGn
        have FPn := Aside0.mk (show w.heap.size ≤ p ∧ W4.heap[p]? = some (.cells #[.int .i64 a0, .slice A1 l1.length c1, .map (some b)] 61 (0, 0)) from ⟨FP.out.1, q3⟩); clear FP; have FP := FPn; clear FPn hne q0 q1 q2 q3 hW4
        refine hK.out _ _ trivial (fun _ => ?_)
        clear hK K
        refine pure_ (i := 8) (N := some 11) (v := ?_) (a' := ?_) #[true, true, true, true, true, true, true, true, true, false] rfl rfl (any_of HT_.out (by kernel_rfl)) (fun _ _ _ h => h) (Or.inl ⟨by rfl, ?_⟩) ?_ ?_
        rotate_left
        · intro w'
          go_simp
          with_reducible rfl
        rotate_left
        · simp only [Act.put, List.setIfInBounds_toArray, List.set_cons_zero, List.set_cons_succ, i64_w, i32_w]
          rfl
        exact hjoin ⟨b, g, p⟩ _ ⟨BW, FB, FG, FP⟩
    · refine value_ (v := (.pointer (some ⟨W0.heap.size, 0, none⟩))) (w1 := W0.alloc (.cells #[.int .i64 0, .slice none 0 0, .map none] 61)) (by rfl) rfl ?_ ?_
      · first | (go_simp; done) | (go_simp; rfl)
      obtain ⟨p, hp⟩ : ∃ p, p = W0.heap.size := ⟨_, rfl⟩
      have FPm := heap_alloc_new W0 (.cells #[.int .i64 0, .slice none 0 0, .map none] 61)
      obtain ⟨W1, hW1⟩ : ∃ z, z = W0.alloc (.cells #[.int .i64 0, .slice none 0 0, .map none] 61) := ⟨_, rfl⟩
      have FP := Aside0.mk (show w.heap.size ≤ p ∧ W1.heap[p]? = some (.cells #[.int .i64 0, .slice none 0 0, .map none] 61 (0, 0)) from ⟨by rw [hp]; exact BW.out.size, by rw [hW1, hp]; exact FPm⟩)
      have BWn := Aside0.mk (show Below w.heap.size w W1 by rw [hW1]; exact below_alloc BW.out (.cells #[.int .i64 0, .slice none 0 0, .map none] 61)); clear BW; have BW := BWn; clear BWn FPm
      rw [← hp, ← hW1]
      clear hp hW1
      refine hK.out _ _ trivial (fun _ => ?_)
      clear hK K
      refine norm_ (a' := ?_) ?_ ?_
      rotate_left
      · show Act.put _ (some 10) _ = _
        simp only [Act.put, List.setIfInBounds_toArray, List.set_cons_zero, List.set_cons_succ, i64_w, i32_w]
        rfl
      refine two_ (i := 2) (j := 5) (Ni := some 28) (Nj := some 31) #[true, true, true, true, true, false, true, false, false, false] #[true, true, false, true, true, true, true, false, false, false] rfl rfl rfl rfl (two_of HT_.out (by kernel_rfl)) (by decide) (by decide) (fun K hK => ?_) (fun K hK => ?_)
      · refine goes_ Try.func36 (by kernel_rfl) rfl #[.int .i64 a0, .slice A1 l1.length c1] (by rfl) rfl rfl (by (try simp only [List.map_toArray, List.map_cons, List.map_nil]); rfl) ?_
        refine (impl_spreadOf.calls a0 A1 l1.length c1 W1).mono ?_
        rintro e W2 ⟨b, rfl, hbs, hbm, hb3⟩
        refine ⟨_, rfl, ?_⟩
        have FPn := Aside0.mk (show w.heap.size ≤ p ∧ W2.heap[p]? = some (.cells #[.int .i64 0, .slice none 0 0, .map none] 61 (0, 0)) from ⟨FP.out.1, (hb3.block p (Array.getElem?_eq_some_iff.1 FP.out.2).1).trans FP.out.2⟩); clear FP; have FP := FPn; clear FPn
        have FB := Aside0.mk (show w.heap.size ≤ b ∧ W2.heap[b]? = some (.map #[] 0) from ⟨Nat.le_trans BW.out.size hbs, hbm⟩)
        have BWn := Aside0.mk (below_step BW.out hb3); clear BW; have BW := BWn; clear BWn hbs hbm hb3
        refine hK.out _ _ trivial (fun _ => ?_)
        clear hK K
        refine norm_ (a' := ?_) ?_ ?_
        rotate_left
        · show Act.put _ (some 28) _ = _
          simp only [Act.put, List.setIfInBounds_toArray, List.set_cons_zero, List.set_cons_succ, i64_w, i32_w]
          rfl
        refine two_ (i := 5) (j := 7) (Ni := some 31) (Nj := none) #[true, true, true, true, true, true, true, false, false, false] #[true, true, true, true, true, false, true, true, false, false] rfl rfl rfl rfl (two_of HT_.out (by kernel_rfl)) (by decide) (by decide) (fun K hK => ?_) (fun K hK => ?_)
        · refine value_ (v := (.slice (some ⟨W2.heap.size, 0, none⟩) 0 0)) (w1 := W2.alloc (.cells #[] 26)) (by rfl) rfl ?_ ?_
          · first | (go_simp; done) | (go_simp; rfl)
          obtain ⟨g, hg⟩ : ∃ g, g = W2.heap.size := ⟨_, rfl⟩
          have FGm := heap_alloc_new W2 (.cells #[] 26)
          obtain ⟨W3, hW3⟩ : ∃ z, z = W2.alloc (.cells #[] 26) := ⟨_, rfl⟩
          have FBn := Aside0.mk (show w.heap.size ≤ b ∧ W3.heap[b]? = some (.map #[] 0) from ⟨FB.out.1, ((show W3.heap[b]? = W2.heap[b]? from by rw [hW3]; exact heap_alloc_old W2 (.cells #[] 26) (Array.getElem?_eq_some_iff.1 FB.out.2).1)).trans FB.out.2⟩); clear FB; have FB := FBn; clear FBn
          have FPn := Aside0.mk (show w.heap.size ≤ p ∧ W3.heap[p]? = some (.cells #[.int .i64 0, .slice none 0 0, .map none] 61 (0, 0)) from ⟨FP.out.1, ((show W3.heap[p]? = W2.heap[p]? from by rw [hW3]; exact heap_alloc_old W2 (.cells #[] 26) (Array.getElem?_eq_some_iff.1 FP.out.2).1)).trans FP.out.2⟩); clear FP; have FP := FPn; clear FPn
          have FG := Aside0.mk (show w.heap.size ≤ g ∧ W3.heap[g]? = some (.cells #[] 26 (0, 0)) from ⟨by rw [hg]; exact BW.out.size, by rw [hW3, hg]; exact FGm⟩)
          have BWn := Aside0.mk (show Below w.heap.size w W3 by rw [hW3]; exact below_alloc BW.out (.cells #[] 26)); clear BW; have BW := BWn; clear BWn FGm
          rw [← hg, ← hW3]
          clear hg hW3
          refine hK.out _ _ trivial (fun _ => ?_)
          clear hK K
          refine norm_ (a' := ?_) ?_ ?_
          rotate_left
          · show Act.put _ (some 31) _ = _
            simp only [Act.put, List.setIfInBounds_toArray, List.set_cons_zero, List.set_cons_succ, i64_w, i32_w]
            rfl
          refine one_ (i := 7) (N := none) #[true, true, true, true, true, true, true, true, false, false] rfl rfl (one_of HT_.out (by kernel_rfl)) (by decide) (fun K hK => ?_)
          have q0 := FP.out.2
          have q1 := blk_set q0 0 (.int .i64 a0)
          have q2 := blk_set q1 1 (.slice A1 l1.length c1)
          have q3 := blk_set q2 2 (.map (some b))
          refine skip_ (w1 := (((W3.setCell ⟨p, 0, none⟩ (.int .i64 a0)).setCell ⟨p, 1, none⟩ (.slice A1 l1.length c1)).setCell ⟨p, 2, none⟩ (.map (some b)))) (by rfl) rfl ?_ ?_
          · have x0 := (blk_cell q0 0).trans rfl
            have x1 := (blk_cell q1 1).trans rfl
            have x2 := (blk_cell q2 2).trans rfl
            have y0 := blk_frozen q0 0
            have y1 := blk_frozen q1 1
            have y2 := blk_frozen q2 2
            go_simp
          have hne : ∀ x (o : Obj), W3.heap[x]? = some o → (∀ cs, o ≠ .cells cs 61 (0, 0)) → (((W3.setCell ⟨p, 0, none⟩ (.int .i64 a0)).setCell ⟨p, 1, none⟩ (.slice A1 l1.length c1)).setCell ⟨p, 2, none⟩ (.map (some b))).heap[x]? = W3.heap[x]? := fun x o hx hn => by
            have hx2 : x ≠ p := fun e => by rw [e, q0] at hx; exact hn _ (Option.some.inj hx).symm
            rw [Below.heap_setCell _ _ _ _ hx2, Below.heap_setCell _ _ _ _ hx2, Below.heap_setCell _ _ _ _ hx2]
          have BWn := Aside0.mk (show Below w.heap.size w (((W3.setCell ⟨p, 0, none⟩ (.int .i64 a0)).setCell ⟨p, 1, none⟩ (.slice A1 l1.length c1)).setCell ⟨p, 2, none⟩ (.map (some b))) from ((BW.out.setCell (p := ⟨p, 0, none⟩) FP.out.1 _).setCell (p := ⟨p, 1, none⟩) FP.out.1 _).setCell (p := ⟨p, 2, none⟩) FP.out.1 _); clear BW; have BW := BWn; clear BWn
          obtain ⟨W4, hW4⟩ : ∃ z, z = (((W3.setCell ⟨p, 0, none⟩ (.int .i64 a0)).setCell ⟨p, 1, none⟩ (.slice A1 l1.length c1)).setCell ⟨p, 2, none⟩ (.map (some b))) := ⟨_, rfl⟩
          rw [← hW4] at BW hne q3 ⊢
          have FBn := Aside0.mk (show w.heap.size ≤ b ∧ W4.heap[b]? = some (.map #[] 0) from ⟨FB.out.1, (hne b _ FB.out.2 (fun cs e => by cases e)).trans FB.out.2⟩); clear FB; have FB := FBn; clear FBn
          have FGn := Aside0.mk (show w.heap.size ≤ g ∧ W4.heap[g]? = some (.cells #[] 26 (0, 0)) from ⟨FG.out.1, (hne g _ FG.out.2 (fun cs e => by cases e)).trans FG.out.2⟩); clear FG; have FG := FGn; clear FGn
          have FPn := Aside0.mk (show w.heap.size ≤ p ∧ W4.heap[p]? = some (.cells #[.int .i64 a0, .slice A1 l1.length c1, .map (some b)] 61 (0, 0)) from ⟨FP.out.1, q3⟩); clear FP; have FP := FPn; clear FPn hne q0 q1 q2 q3 hW4
          refine hK.out _ _ trivial (fun _ => ?_)
          clear hK K
          refine pure_ (i := 8) (N := some 11) (v := ?_) (a' := ?_) #[true, true, true, true, true, true, true, true, true, false] rfl rfl (any_of HT_.out (by kernel_rfl)) (fun _ _ _ h => h) (Or.inl ⟨by rfl, ?_⟩) ?_ ?_
          rotate_left
          · intro w'
            go_simp
            with_reducible rfl
          rotate_left
          · simp only [Act.put, List.setIfInBounds_toArray, List.set_cons_zero, List.set_cons_succ, i64_w, i32_w]
            rfl
          exact hjoin ⟨b, g, p⟩ _ ⟨BW, FB, FG, FP⟩
        · have q0 := FP.out.2
          have q1 := blk_set q0 0 (.int .i64 a0)
          have q2 := blk_set q1 1 (.slice A1 l1.length c1)
          have q3 := blk_set q2 2 (.map (some b))
          refine skip_ (w1 := (((W2.setCell ⟨p, 0, none⟩ (.int .i64 a0)).setCell ⟨p, 1, none⟩ (.slice A1 l1.length c1)).setCell ⟨p, 2, none⟩ (.map (some b)))) (by rfl) rfl ?_ ?_
          · have x0 := (blk_cell q0 0).trans rfl
            have x1 := (blk_cell q1 1).trans rfl
            have x2 := (blk_cell q2 2).trans rfl
            have y0 := blk_frozen q0 0
            have y1 := blk_frozen q1 1
            have y2 := blk_frozen q2 2
            go_simp
          have hne : ∀ x (o : Obj), W2.heap[x]? = some o → (∀ cs, o ≠ .cells cs 61 (0, 0)) → (((W2.setCell ⟨p, 0, none⟩ (.int .i64 a0)).setCell ⟨p, 1, none⟩ (.slice A1 l1.length c1)).setCell ⟨p, 2, none⟩ (.map (some b))).heap[x]? = W2.heap[x]? := fun x o hx hn => by
            have hx2 : x ≠ p := fun e => by rw [e, q0] at hx; exact hn _ (Option.some.inj hx).symm
            rw [Below.heap_setCell _ _ _ _ hx2, Below.heap_setCell _ _ _ _ hx2, Below.heap_setCell _ _ _ _ hx2]
          have BWn := Aside0.mk (show Below w.heap.size w (((W2.setCell ⟨p, 0, none⟩ (.int .i64 a0)).setCell ⟨p, 1, none⟩ (.slice A1 l1.length c1)).setCell ⟨p, 2, none⟩ (.map (some b))) from ((BW.out.setCell (p := ⟨p, 0, none⟩) FP.out.1 _).setCell (p := ⟨p, 1, none⟩) FP.out.1 _).setCell (p := ⟨p, 2, none⟩) FP.out.1 _); clear BW; have BW := BWn; clear BWn
          obtain ⟨W3, hW3⟩ : ∃ z, z = (((W2.setCell ⟨p, 0, none⟩ (.int .i64 a0)).setCell ⟨p, 1, none⟩ (.slice A1 l1.length c1)).setCell ⟨p, 2, none⟩ (.map (some b))) := ⟨_, rfl⟩
          rw [← hW3] at BW hne q3 ⊢
          have FBn := Aside0.mk (show w.heap.size ≤ b ∧ W3.heap[b]? = some (.map #[] 0) from ⟨FB.out.1, (hne b _ FB.out.2 (fun cs e => by cases e)).trans FB.out.2⟩); clear FB; have FB := FBn; clear FBn
          have FPn := Aside0.mk (show w.heap.size ≤ p ∧ W3.heap[p]? = some (.cells #[.int .i64 a0, .slice A1 l1.length c1, .map (some b)] 61 (0, 0)) from ⟨FP.out.1, q3⟩); clear FP; have FP := FPn; clear FPn hne q0 q1 q2 q3 hW3
          refine hK.out _ _ trivial (fun _ => ?_)
          clear hK K
          refine pure_ (i := 8) (N := some 11) (v := ?_) (a' := ?_) #[true, true, true, true, true, false, true, true, true, false] rfl rfl (any_of HT_.out (by kernel_rfl)) (fun _ _ _ h => h) (Or.inl ⟨by rfl, ?_⟩) ?_ ?_
          rotate_left
          · intro w'
            go_simp
            with_reducible rfl
          rotate_left
          · simp only [Act.put, List.setIfInBounds_toArray, List.set_cons_zero, List.set_cons_succ, i64_w, i32_w]
            rfl
          refine one_ (i := 5) (N := some 31) #[true, true, true, true, true, true, true, true, true, false] rfl rfl (one_of HT_.out (by kernel_rfl)) (by decide) (fun K hK => ?_)
          refine value_ (v := (.slice (some ⟨W3.heap.size, 0, none⟩) 0 0)) (w1 := W3.alloc (.cells #[] 26)) (by rfl) rfl ?_ ?_
          · first | (go_simp; done) | (go_simp; rfl)
          obtain ⟨g, hg⟩ : ∃ g, g = W3.heap.size := ⟨_, rfl⟩
          have FGm := heap_alloc_new W3 (.cells #[] 26)
          obtain ⟨W4, hW4⟩ : ∃ z, z = W3.alloc (.cells #[] 26) := ⟨_, rfl⟩
          have FBn := Aside0.mk (show w.heap.size ≤ b ∧ W4.heap[b]? = some (.map #[] 0) from ⟨FB.out.1, ((show W4.heap[b]? = W3.heap[b]? from by rw [hW4]; exact heap_alloc_old W3 (.cells #[] 26) (Array.getElem?_eq_some_iff.1 FB.out.2).1)).trans FB.out.2⟩); clear FB; have FB := FBn; clear FBn
          have FPn := Aside0.mk (show w.heap.size ≤ p ∧ W4.heap[p]? = some (.cells #[.int .i64 a0, .slice A1 l1.length c1, .map (some b)] 61 (0, 0)) from ⟨FP.out.1, ((show W4.heap[p]? = W3.heap[p]? from by rw [hW4]; exact heap_alloc_old W3 (.cells #[] 26) (Array.getElem?_eq_some_iff.1 FP.out.2).1)).trans FP.out.2⟩); clear FP; have FP := FPn; clear FPn
          have FG := Aside0.mk (show w.heap.size ≤ g ∧ W4.heap[g]? = some (.cells #[] 26 (0, 0)) from ⟨by rw [hg]; exact BW.out.size, by rw [hW4, hg]; exact FGm⟩)
          have BWn := Aside0.mk (show Below w.heap.size w W4 by rw [hW4]; exact below_alloc BW.out (.cells #[] 26)); clear BW; have BW := BWn; clear BWn FGm
          rw [← hg, ← hW4]
          clear hg hW4
          refine hK.out _ _ trivial (fun _ => ?_)
          clear hK K
          refine norm_ (a' := ?_) ?_ ?_
          rotate_left
          · show Act.put _ (some 31) _ = _
            simp only [Act.put, List.setIfInBounds_toArray, List.set_cons_zero, List.set_cons_succ, i64_w, i32_w]
            rfl
          exact hjoin ⟨b, g, p⟩ _ ⟨BW, FB, FG, FP⟩
      · refine value_ (v := (.slice (some ⟨W1.heap.size, 0, none⟩) 0 0)) (w1 := W1.alloc (.cells #[] 26)) (by rfl) rfl ?_ ?_
        · first | (go_simp; done) | (go_simp; rfl)
        obtain ⟨g, hg⟩ : ∃ g, g = W1.heap.size := ⟨_, rfl⟩
        have FGm := heap_alloc_new W1 (.cells #[] 26)
        obtain ⟨W2, hW2⟩ : ∃ z, z = W1.alloc (.cells #[] 26) := ⟨_, rfl⟩
        have FPn := Aside0.mk (show w.heap.size ≤ p ∧ W2.heap[p]? = some (.cells #[.int .i64 0, .slice none 0 0, .map none] 61 (0, 0)) from ⟨FP.out.1, ((show W2.heap[p]? = W1.heap[p]? from by rw [hW2]; exact heap_alloc_old W1 (.cells #[] 26) (Array.getElem?_eq_some_iff.1 FP.out.2).1)).trans FP.out.2⟩); clear FP; have FP := FPn; clear FPn
        have FG := Aside0.mk (show w.heap.size ≤ g ∧ W2.heap[g]? = some (.cells #[] 26 (0, 0)) from ⟨by rw [hg]; exact BW.out.size, by rw [hW2, hg]; exact FGm⟩)
        have BWn := Aside0.mk (show Below w.heap.size w W2 by rw [hW2]; exact below_alloc BW.out (.cells #[] 26)); clear BW; have BW := BWn; clear BWn FGm
        rw [← hg, ← hW2]
        clear hg hW2
        refine hK.out _ _ trivial (fun _ => ?_)
        clear hK K
        refine norm_ (a' := ?_) ?_ ?_
        rotate_left
        · show Act.put _ (some 31) _ = _
          simp only [Act.put, List.setIfInBounds_toArray, List.set_cons_zero, List.set_cons_succ, i64_w, i32_w]
          rfl
        refine one_ (i := 2) (N := some 28) #[true, true, true, true, true, true, true, false, false, false] rfl rfl (one_of HT_.out (by kernel_rfl)) (by decide) (fun K hK => ?_)
        refine goes_ Try.func36 (by kernel_rfl) rfl #[.int .i64 a0, .slice A1 l1.length c1] (by rfl) rfl rfl (by (try simp only [List.map_toArray, List.map_cons, List.map_nil]); rfl) ?_
        refine (impl_spreadOf.calls a0 A1 l1.length c1 W2).mono ?_
        rintro e W3 ⟨b, rfl, hbs, hbm, hb3⟩
        refine ⟨_, rfl, ?_⟩
        have FGn := Aside0.mk (show w.heap.size ≤ g ∧ W3.heap[g]? = some (.cells #[] 26 (0, 0)) from ⟨FG.out.1, (hb3.block g (Array.getElem?_eq_some_iff.1 FG.out.2).1).trans FG.out.2⟩); clear FG; have FG := FGn; clear FGn
        have FPn := Aside0.mk (show w.heap.size ≤ p ∧ W3.heap[p]? = some (.cells #[.int .i64 0, .slice none 0 0, .map none] 61 (0, 0)) from ⟨FP.out.1, (hb3.block p (Array.getElem?_eq_some_iff.1 FP.out.2).1).trans FP.out.2⟩); clear FP; have FP := FPn; clear FPn
        have FB := Aside0.mk (show w.heap.size ≤ b ∧ W3.heap[b]? = some (.map #[] 0) from ⟨Nat.le_trans BW.out.size hbs, hbm⟩)
        have BWn := Aside0.mk (below_step BW.out hb3); clear BW; have BW := BWn; clear BWn hbs hbm hb3
        refine hK.out _ _ trivial (fun _ => ?_)
        clear hK K
        refine norm_ (a' := ?_) ?_ ?_
        rotate_left
        · show Act.put _ (some 28) _ = _
          simp only [Act.put, List.setIfInBounds_toArray, List.set_cons_zero, List.set_cons_succ, i64_w, i32_w]
          rfl
        refine one_ (i := 7) (N := none) #[true, true, true, true, true, true, true, true, false, false] rfl rfl (one_of HT_.out (by kernel_rfl)) (by decide) (fun K hK => ?_)
        have q0 := FP.out.2
        have q1 := blk_set q0 0 (.int .i64 a0)
        have q2 := blk_set q1 1 (.slice A1 l1.length c1)
        have q3 := blk_set q2 2 (.map (some b))
        refine skip_ (w1 := (((W3.setCell ⟨p, 0, none⟩ (.int .i64 a0)).setCell ⟨p, 1, none⟩ (.slice A1 l1.length c1)).setCell ⟨p, 2, none⟩ (.map (some b)))) (by rfl) rfl ?_ ?_
        · have x0 := (blk_cell q0 0).trans rfl
          have x1 := (blk_cell q1 1).trans rfl
          have x2 := (blk_cell q2 2).trans rfl
          have y0 := blk_frozen q0 0
          have y1 := blk_frozen q1 1
          have y2 := blk_frozen q2 2
          go_simp
        have hne : ∀ x (o : Obj), W3.heap[x]? = some o → (∀ cs, o ≠ .cells cs 61 (0, 0)) → (((W3.setCell ⟨p, 0, none⟩ (.int .i64 a0)).setCell ⟨p, 1, none⟩ (.slice A1 l1.length c1)).setCell ⟨p, 2, none⟩ (.map (some b))).heap[x]? = W3.heap[x]? := fun x o hx hn => by
          have hx2 : x ≠ p := fun e => by rw [e, q0] at hx; exact hn _ (Option.some.inj hx).symm
          rw [Below.heap_setCell _ _ _ _ hx2, Below.heap_setCell _ _ _ _ hx2, Below.heap_setCell _ _ _ _ hx2]
        have BWn := Aside0.mk (show Below w.heap.size w (((W3.setCell ⟨p, 0, none⟩ (.int .i64 a0)).setCell ⟨p, 1, none⟩ (.slice A1 l1.length c1)).setCell ⟨p, 2, none⟩ (.map (some b))) from ((BW.out.setCell (p := ⟨p, 0, none⟩) FP.out.1 _).setCell (p := ⟨p, 1, none⟩) FP.out.1 _).setCell (p := ⟨p, 2, none⟩) FP.out.1 _); clear BW; have BW := BWn; clear BWn
        obtain ⟨W4, hW4⟩ : ∃ z, z = (((W3.setCell ⟨p, 0, none⟩ (.int .i64 a0)).setCell ⟨p, 1, none⟩ (.slice A1 l1.length c1)).setCell ⟨p, 2, none⟩ (.map (some b))) := ⟨_, rfl⟩
        rw [← hW4] at BW hne q3 ⊢
        have FBn := Aside0.mk (show w.heap.size ≤ b ∧ W4.heap[b]? = some (.map #[] 0) from ⟨FB.out.1, (hne b _ FB.out.2 (fun cs e => by cases e)).trans FB.out.2⟩); clear FB; have FB := FBn; clear FBn
        have FGn := Aside0.mk (show w.heap.size ≤ g ∧ W4.heap[g]? = some (.cells #[] 26 (0, 0)) from ⟨FG.out.1, (hne g _ FG.out.2 (fun cs e => by cases e)).trans FG.out.2⟩); clear FG; have FG := FGn; clear FGn
        have FPn := Aside0.mk (show w.heap.size ≤ p ∧ W4.heap[p]? = some (.cells #[.int .i64 a0, .slice A1 l1.length c1, .map (some b)] 61 (0, 0)) from ⟨FP.out.1, q3⟩); clear FP; have FP := FPn; clear FPn hne q0 q1 q2 q3 hW4
        refine hK.out _ _ trivial (fun _ => ?_)
        clear hK K
        refine pure_ (i := 8) (N := some 11) (v := ?_) (a' := ?_) #[true, true, true, true, true, true, true, true, true, false] rfl rfl (any_of HT_.out (by kernel_rfl)) (fun _ _ _ h => h) (Or.inl ⟨by rfl, ?_⟩) ?_ ?_
        rotate_left
        · intro w'
          go_simp
          with_reducible rfl
        rotate_left
        · simp only [Act.put, List.setIfInBounds_toArray, List.set_cons_zero, List.set_cons_succ, i64_w, i32_w]
          rfl
        exact hjoin ⟨b, g, p⟩ _ ⟨BW, FB, FG, FP⟩



end Go.Proofs.Ytoncbgjbkgdbaaa.PFnExactFirstSpread
