-- Written by a program of this claim, over the kit's print: the functions that a law reaches, their plain forms and the walks.
import Derived.Test.YtbghdbpaihkcjabDoorPFnExactParseTestsx0
import Derived.Test.YtbghdbpaihkcjabDoorPFnExactParseTestsx1
import Derived.Test.YtbghdbpaihkcjabDoorPFnExactParseTestsx3
import Derived.Test.YtbghdbpaihkcjabDoorPFnExactParseTestsx6
namespace Go.Proofs.YtbghdbpaihkcjabDoor.PFnExactParseTests
open Go.RowKit Go.Proofs.YtbghdbpaihkcjabDoorW.PrintWords Go.Proofs.YtbghdbpaihkcjabDoorW.PrintLast Go.Proofs.YtbghdbpaihkcjabDoorW.PrintMore
attribute [local go_sem] max2_int min2_int max_two min_two max_three min_three max_four min_four   -- for this text's walks alone
set_option linter.unusedVariables false
set_option linter.unusedSimpArgs false

/-! ### laws_heldIntSS: function 20 -/
def laws_heldIntSS.l0 : Nat → List (List Int) → Int → Int → Option (Int)
  | 0, _, _, _ => none
  | k + 1, x0, x1, x5 => if x5 < (x0.length : Int) then (if 0 ≤ x5 then ((laws_heldIntS.f k (rd_L1 x0 x5) x1).bind fun t178 => (if t178 < 0 then (some (-1)) else (laws_heldIntSS.l0 k x0 t178 (wrap64 (x5 + 1))))) else (none)) else (some x1)
def laws_heldIntSS.f (k : Nat) (l0 : List (List Int)) (a1 : Int) : Option (Int) := laws_heldIntSS.l0 k l0 a1 0
theorem laws_heldIntSS.mono_l : ∀ k, (∀ y0 y1 y2, LeO (laws_heldIntSS.l0 k y0 y1 y2) (laws_heldIntSS.l0 (k + 1) y0 y1 y2))
  | 0 => fun _ _ _ r h => by simp [laws_heldIntSS.l0] at h
  | k + 1 => by
    have ih0 := laws_heldIntSS.mono_l k
    · intro y0 y1 y2
      unfold laws_heldIntSS.l0
      repeat' first
      | (with_reducible exact ih0 _ _ _)
      | (with_reducible exact laws_heldIntS.mono _ _ _)
      | (with_reducible exact LeO.refl _)
      | (with_reducible exact LeO.none _)
      | (with_reducible refine LeO.ite ?_ ?_)
      | (with_reducible refine LeO.bind ?_ (fun _ => ?_))
      | exact ih0 _ _ _
      | exact laws_heldIntS.mono _ _ _
      | exact LeO.none _
      | refine LeO.ite ?_ ?_
      | refine LeO.bind ?_ (fun _ => ?_)
theorem laws_heldIntSS.mono : ∀ a0 a1 k, LeO (laws_heldIntSS.f k a0 a1) (laws_heldIntSS.f (k + 1) a0 a1) := by
  intro a0 a1 k
  have ih0 := laws_heldIntSS.mono_l k
  unfold laws_heldIntSS.f
  repeat' first
      | (with_reducible exact ih0 _ _ _)
      | (with_reducible exact laws_heldIntS.mono _ _ _)
      | (with_reducible exact LeO.refl _)
      | (with_reducible exact LeO.none _)
      | (with_reducible refine LeO.ite ?_ ?_)
      | (with_reducible refine LeO.bind ?_ (fun _ => ?_))
      | exact ih0 _ _ _
      | exact laws_heldIntS.mono _ _ _
      | exact LeO.none _
      | refine LeO.ite ?_ ?_
      | refine LeO.bind ?_ (fun _ => ?_)
set_option maxHeartbeats 8000000 in
set_option maxRecDepth 100000 in
theorem laws_heldIntSS.calls (k : Nat) (A0 : Option Addr) (c0 : Nat) (l0 : List (List Int)) (a1 : Int) (r : Int) (w : World) (hr0 : Kd.C (Kd.slice 3 (Kd.int .i64)) w A0 l0.length l0) (hc0 : l0.length ≤ c0) (h : laws_heldIntSS.f k l0 a1 = some r) :
    Calls Tryd.prog 20 #[.slice A0 l0.length c0, .int .i64 a1] w fun e w' => e = .returned (.int .i64 r) ∧ Drawn0 w w' := by
  have HR0 := Aside0.mk hr0
  have HC0 := Aside0.mk hc0
  clear hr0 hc0
  have H : (laws_heldIntSS.l0 k l0 a1 0) = some r := h
  clear h
  have H' := Aside0.mk H
  clear H
  go_enter Tryd.func20, Tryd.ntmps20
  go_wp2
  go_loopg [1, 5] k (fun kq v1 v5 w' => ∃ (x1_1 : Int) (x5_1 : Int), v1 = .int .i64 x1_1 ∧ v5 = .int .i64 x5_1 ∧ Aside0 (laws_heldIntSS.l0 kq l0 x1_1 x5_1 = some r) ∧ Aside0 (kq ≤ k) ∧ Drawn0 w w')
  case atStart => exact ⟨(a1), (0), (by first | rfl | (simp; done) | (simp [*]; done)), (by first | rfl | (simp; done) | (simp [*]; done)), H', ⟨Nat.le_refl _⟩, by repeat (first | exact Drawn0.refl _ | apply Drawn0.step)⟩
  case round =>
    clear H'
    try clear c2
    try clear p2
    obtain ⟨x1_1, x5_1, rfl, rfl, HA, HK1, ⟨m1, rfl⟩⟩ := hrel
    cases gk with
    | zero => exact absurd HA.out (by simp [laws_heldIntSS.l0])
    | succ k1 =>
      have H := HA.out
      clear HA
      simp only [laws_heldIntSS.l0] at H
      by_cases c3 : x5_1 < (l0.length : Int)
      · rw [if_pos c3] at H
        have c3b0 : decide (x5_1 < (l0.length : Int)) = true := decide_eq_true c3
        clear c3
        by_cases c4 : 0 ≤ x5_1
        · rw [if_pos c4] at H
          have c4b0 : decide (0 ≤ x5_1) = true := decide_eq_true c4
          clear c4
          replace H := Option.bind_eq_some_iff.mp H
          obtain ⟨t178, A50, H⟩ := H
          replace H : (if t178 < 0 then (some (-1)) else (laws_heldIntSS.l0 k1 l0 t178 (wrap64 (x5_1 + 1)))) = some r := H
          have A5 := Aside0.mk A50
          clear A50
          by_cases c6 : t178 < 0
          · rw [if_pos c6] at H
            have c6b0 : decide (t178 < 0) = true := decide_eq_true c6
            clear c6
            obtain rfl := Option.some.inj H
            have p177 : 0 ≤ (x5_1 : Int) := of_decide_eq_true (by first | (with_reducible assumption) | assumption)
            have q177 : x5_1 < (l0.length : Int) := of_decide_eq_true (by first | (with_reducible assumption) | assumption)
            obtain ⟨ad177, A177_0, c177_0, e177, hx177_0, hl177_0, hi177_0⟩ := at_L1 HR0.out x5_1 p177 q177
            cases e177
            have HR177_0 := Aside0.mk hi177_0
            have HC177_0 := Aside0.mk hl177_0
            clear hi177_0 hl177_0
            replace p177 := eq_true p177
            replace q177 := eq_true q177
            go_wp2_with (first | ((with_reducible refine gate_callee (f := 43) rfl ?_); refine goesL_ (some 17) rfl rfl Tryd.func43 (by kernel_rfl) rfl #[.slice A177_0 (rd_L1 l0 x5_1).length c177_0, .int .i64 x1_1] rfl (by (try simp only [List.map_toArray, List.map_cons, List.map_nil]); first | done | rfl | (simp only [List.length_drop, List.length_take]; rfl) | (simp; done) | (refine congrArg Value.bool ?_; simp; done) | (refine congrArg (fun z_ => #[Value.bool z_]) ?_; simp; done)) ?_; (with_reducible refine (laws_heldIntS.calls k1 _ _ (rd_L1 l0 x5_1) x1_1 t178 _ ?side1 ?side2 A5.out).mono ?_); (case side1 => repeat (first | exact HR177_0.out | (with_reducible refine Kd.C_alloc ?_ _) | (with_reducible refine Kd.C_drewN ?_ _) | (with_reducible refine Kd.C_drew ?_))); (case side2 => exact HC177_0.out); rintro e w' ⟨rfl, ⟨nd, rfl⟩⟩; refine ⟨_, rfl, ?_⟩))
            go_ret
            exact ⟨by first | rfl | (simp; done) | (simp [*]; done), by repeat (first | exact Drawn0.refl _ | apply Drawn0.step)⟩
          · rw [if_neg c6] at H
            have c6b0 : decide (t178 < 0) = false := decide_eq_false c6
            clear c6
            have H' := Aside0.mk H
            clear H
            have p177 : 0 ≤ (x5_1 : Int) := of_decide_eq_true (by first | (with_reducible assumption) | assumption)
            have q177 : x5_1 < (l0.length : Int) := of_decide_eq_true (by first | (with_reducible assumption) | assumption)
            obtain ⟨ad177, A177_0, c177_0, e177, hx177_0, hl177_0, hi177_0⟩ := at_L1 HR0.out x5_1 p177 q177
            cases e177
            have HR177_0 := Aside0.mk hi177_0
            have HC177_0 := Aside0.mk hl177_0
            clear hi177_0 hl177_0
            replace p177 := eq_true p177
            replace q177 := eq_true q177
            go_wp2_with (first | ((with_reducible refine gate_callee (f := 43) rfl ?_); refine goesL_ (some 17) rfl rfl Tryd.func43 (by kernel_rfl) rfl #[.slice A177_0 (rd_L1 l0 x5_1).length c177_0, .int .i64 x1_1] rfl (by (try simp only [List.map_toArray, List.map_cons, List.map_nil]); first | done | rfl | (simp only [List.length_drop, List.length_take]; rfl) | (simp; done) | (refine congrArg Value.bool ?_; simp; done) | (refine congrArg (fun z_ => #[Value.bool z_]) ?_; simp; done)) ?_; (with_reducible refine (laws_heldIntS.calls k1 _ _ (rd_L1 l0 x5_1) x1_1 t178 _ ?side1 ?side2 A5.out).mono ?_); (case side1 => repeat (first | exact HR177_0.out | (with_reducible refine Kd.C_alloc ?_ _) | (with_reducible refine Kd.C_drewN ?_ _) | (with_reducible refine Kd.C_drew ?_))); (case side2 => exact HC177_0.out); rintro e w' ⟨rfl, ⟨nd, rfl⟩⟩; refine ⟨_, rfl, ?_⟩))
            go_roundg k1
            case measure => have := HK1.out; omega
            case rel => exact ⟨(t178), (wrap64 (x5_1 + 1)), (by first | rfl | (simp; done) | (simp [*]; done)), (by first | rfl | (simp; done) | (simp [*]; done)), H', ⟨by have := HK1.out; omega⟩, by repeat (first | exact Drawn0.refl _ | apply Drawn0.step)⟩
        · rw [if_neg c4] at H
          exact absurd H (by simp)
      · rw [if_neg c3] at H
        have c3b0 : decide (x5_1 < (l0.length : Int)) = false := decide_eq_false c3
        clear c3
        obtain rfl := Option.some.inj H
        go_wp2
        go_ret
        exact ⟨by first | rfl | (simp; done) | (simp [*]; done), by repeat (first | exact Drawn0.refl _ | apply Drawn0.step)⟩

/-! ### laws_FnExactParseTests: function 5 -/
namespace Aux
theorem w64 {x : Int} (h0 : -9223372036854775808 ≤ x) (h1 : x ≤ 9223372036854775807) : wrap64 x = x := by unfold wrap64; omega
theorem up64 {i n : Nat} (h : i < n) (hn : n ≤ 4611686018427387904) : wrap64 ((i : Int) + 1) = ((i + 1 : Nat) : Int) := by rw [w64 (by omega) (by omega)]; omega
theorem rd_lt {xs : List Int} {i : Nat} (h : i < xs.length) : rd xs (i : Int) = xs[i] := by unfold rd; simp [List.getD_eq_getElem?_getD, h]

theorem eqIntS_l0 (a b : List Int) (hl : a.length = b.length) (hn : a.length ≤ 4611686018427387904) : ∀ (d i k : Nat), i + d = a.length → d < k → laws_eqIntS.l0 k a b (i : Int) = some (decide (a.drop i = b.drop i))
  | 0, i, k, hi, hk => by
    obtain ⟨k, rfl⟩ : ∃ q, k = q + 1 := ⟨k - 1, by omega⟩
    simp only [laws_eqIntS.l0]
    rw [if_neg (by omega), List.drop_eq_nil_of_le (by omega), List.drop_eq_nil_of_le (by omega)]
    simp
  | d + 1, i, k, hi, hk => by
    obtain ⟨k, rfl⟩ : ∃ q, k = q + 1 := ⟨k - 1, by omega⟩
    have ih := eqIntS_l0 a b hl hn d (i + 1) k (by omega) (by omega)
    have ha : i < a.length := by omega
    have hb : i < b.length := by omega
    simp only [laws_eqIntS.l0]
    rw [if_pos (by omega), if_pos (by omega), if_pos (by omega), up64 ha hn, ih, rd_lt ha, rd_lt hb, List.drop_eq_getElem_cons ha, List.drop_eq_getElem_cons hb]
    by_cases e : a[i] = b[i]
    · rw [if_pos e, e]; simp only [List.cons.injEq, true_and]
    · rw [if_neg e]; simp only [List.cons.injEq, e, false_and, decide_false]
theorem eqIntS_f (a b : List Int) (hn : a.length ≤ 4611686018427387904) {k : Nat} (hk : a.length < k) : laws_eqIntS.f k a b = some (decide (a = b)) := by
  unfold laws_eqIntS.f
  by_cases h : a.length = b.length
  · rw [if_pos (by omega)]
    exact eqIntS_l0 a b h hn a.length 0 k (by omega) hk
  · rw [if_neg (by omega), decide_eq_false (fun e => h (by rw [e]))]

/-- The numbers a, a + 1, .. -/
def mk (a : Int) (n : Nat) : List Int := (List.range n).map (fun (j : Nat) => a + (j : Int))
theorem mk_len (a : Int) (n : Nat) : (mk a n).length = n := by simp [mk]
theorem mk_succ (a : Int) (n : Nat) : mk a (n + 1) = mk a n ++ [a + (n : Int)] := by simp [mk, List.range_succ]
theorem mk_rd (a : Int) {n i : Nat} (h : i < n) : rd (mk a n) (i : Int) = a + (i : Int) := by
  rw [rd_lt (by rw [mk_len]; exact h)]
  simp [mk]
theorem markIntS_l0 (l : List Int) (a : Int) (h0 : 0 ≤ a) (h1 : a ≤ 1000000000000) (hn : l.length ≤ 1000000000000) : ∀ (d i k : Nat), i + d = l.length → d < k → laws_markIntS.l0 k (mk a i ++ l.drop i) (a + (i : Int)) (i : Int) = some (a + (l.length : Int), mk a l.length)
  | 0, i, k, hi, hk => by
    obtain ⟨k, rfl⟩ : ∃ q, k = q + 1 := ⟨k - 1, by omega⟩
    have e : i = l.length := by omega
    subst e
    simp only [laws_markIntS.l0]
    rw [if_neg (by rw [List.length_append, mk_len, List.length_drop]; omega), List.drop_eq_nil_of_le (by omega), List.append_nil]
  | d + 1, i, k, hi, hk => by
    obtain ⟨k, rfl⟩ : ∃ q, k = q + 1 := ⟨k - 1, by omega⟩
    have ha : i < l.length := by omega
    have ih := markIntS_l0 l a h0 h1 hn d (i + 1) k (by omega) (by omega)
    simp only [laws_markIntS.l0]
    rw [if_pos (by rw [List.length_append, mk_len, List.length_drop]; omega), if_pos (by omega), up64 ha (by omega), w64 (x := a + (i : Int) + 1) (by omega) (by omega)]
    have he : (mk a i ++ l.drop i).set ((i : Nat) : Int).toNat (a + (i : Int)) = mk a (i + 1) ++ l.drop (i + 1) := by
      rw [List.set_append_right _ _ (by rw [mk_len]; omega), mk_len, mk_succ, List.drop_eq_getElem_cons ha]
      have e : ((i : Nat) : Int).toNat - i = 0 := by omega
      rw [e, List.set_cons_zero]
      simp only [List.append_assoc, List.singleton_append]
    rw [he, show a + (i : Int) + 1 = a + ((i + 1 : Nat) : Int) by omega]
    exact ih
theorem markIntS_f (l : List Int) (a : Int) (h0 : 0 ≤ a) (h1 : a ≤ 1000000000000) (hn : l.length ≤ 1000000000000) {k : Nat} (hk : l.length < k) : laws_markIntS.f k l a = some (a + (l.length : Int), mk a l.length) := by
  have h := markIntS_l0 l a h0 h1 hn l.length 0 k (by omega) hk
  unfold laws_markIntS.f
  simpa [mk] using h
theorem heldIntS_l0 (n : Nat) (a : Int) (h0 : 0 ≤ a) (h1 : a ≤ 1000000000000) (hn : n ≤ 1000000000000) : ∀ (d i k : Nat), i + d = n → d < k → laws_heldIntS.l0 k (mk a n) (a + (i : Int)) (i : Int) = some (a + (n : Int))
  | 0, i, k, hi, hk => by
    obtain ⟨k, rfl⟩ : ∃ q, k = q + 1 := ⟨k - 1, by omega⟩
    have e : i = n := by omega
    subst e
    simp only [laws_heldIntS.l0]
    rw [if_neg (by rw [mk_len]; omega)]
  | d + 1, i, k, hi, hk => by
    obtain ⟨k, rfl⟩ : ∃ q, k = q + 1 := ⟨k - 1, by omega⟩
    have ha : i < n := by omega
    have ih := heldIntS_l0 n a h0 h1 hn d (i + 1) k (by omega) (by omega)
    simp only [laws_heldIntS.l0]
    rw [if_pos (by rw [mk_len]; omega), if_pos (by omega), mk_rd a ha, if_pos rfl, up64 ha (by omega), w64 (x := a + (i : Int) + 1) (by omega) (by omega), show a + (i : Int) + 1 = a + ((i + 1 : Nat) : Int) by omega]
    exact ih
theorem heldIntS_f (n : Nat) (a : Int) (h0 : 0 ≤ a) (h1 : a ≤ 1000000000000) (hn : n ≤ 1000000000000) {k : Nat} (hk : n < k) : laws_heldIntS.f k (mk a n) a = some (a + (n : Int)) := by
  have h := heldIntS_l0 n a h0 h1 hn n 0 k (by omega) hk
  unfold laws_heldIntS.f
  simpa using h

/-- The length of all rows together. -/
def tot (l : List (List Int)) : Nat := (l.map List.length).sum
theorem tot_cons (x : List Int) (l : List (List Int)) : tot (x :: l) = x.length + tot l := by simp [tot]
theorem tot_append (a b : List (List Int)) : tot (a ++ b) = tot a + tot b := by simp [tot]
theorem tot_drop (l : List (List Int)) (i : Nat) (h : i < l.length) : tot (l.drop i) = (l[i]).length + tot (l.drop (i + 1)) := by
  rw [List.drop_eq_getElem_cons h, tot_cons]
theorem tot_drop_le (l : List (List Int)) : ∀ i, tot (l.drop i) ≤ tot l := by
  induction l with
  | nil => intro i; simp [tot]
  | cons x l ih =>
    intro i
    cases i with
    | zero => simp
    | succ i => rw [List.drop_succ_cons, tot_cons]; have := ih i; omega
theorem eqIntS_ev (l : List Int) (h : l.length ≤ 1000000000) : ∃ k, laws_eqIntS.f k l l = some true := ⟨l.length + 1, by rw [eqIntS_f l l (by omega) (by omega)]; simp⟩
theorem markIntS_ev (l : List Int) (a : Int) (h0 : 0 ≤ a) (h1 : a ≤ 1000000000) (h : l.length ≤ 1000000000) : ∃ k m L, a ≤ m ∧ m = a + (l.length : Int) ∧ L.length = l.length ∧ laws_markIntS.f k l a = some (m, L) ∧ laws_heldIntS.f k L a = some m :=
  ⟨l.length + 1, a + (l.length : Int), mk a l.length, by omega, rfl, mk_len _ _, markIntS_f l a h0 (by omega) (by omega) (by omega), heldIntS_f l.length a h0 (by omega) (by omega) (by omega)⟩

theorem eqIntSS_l0 (a : List (List Int)) (hn : a.length ≤ 1000000000) (ht : tot a ≤ 1000000000) : ∀ (d i k : Nat), i + d = a.length → d + 1000000001 < k → laws_eqIntSS.l0 k a a (i : Int) = some true
  | 0, i, k, hi, hk => by
    obtain ⟨k, rfl⟩ : ∃ q, k = q + 1 := ⟨k - 1, by omega⟩
    simp only [laws_eqIntSS.l0]
    rw [if_neg (by omega)]
  | d + 1, i, k, hi, hk => by
    obtain ⟨k, rfl⟩ : ∃ q, k = q + 1 := ⟨k - 1, by omega⟩
    have ih := eqIntSS_l0 a hn ht d (i + 1) k (by omega) (by omega)
    have ha : i < a.length := by omega
    have h1 := tot_drop a i ha
    have h2 := tot_drop_le a i
    have e : rd_L1 a (i : Int) = a[i] := by unfold rd_L1; simp [List.getD_eq_getElem?_getD, ha]
    simp only [laws_eqIntSS.l0]
    rw [if_pos (by omega), if_pos (by omega), if_pos (by omega), e, eqIntS_f _ _ (by omega) (by omega), up64 ha (by omega)]
    simpa using ih
theorem eqIntSS_ev (l : List (List Int)) (hn : l.length ≤ 1000000000) (ht : tot l ≤ 1000000000) : ∃ k, laws_eqIntSS.f k l l = some true := by
  refine ⟨3000000000, ?_⟩
  unfold laws_eqIntSS.f
  rw [if_pos rfl]
  exact eqIntSS_l0 l hn ht l.length 0 _ (by omega) (by omega)
/-- Rows that are numbered one behind the other. -/
def mkS : List (List Int) → Int → List (List Int)
  | [], _ => []
  | x :: l, a => mk a x.length :: mkS l (a + (x.length : Int))
theorem mkS_len (l : List (List Int)) : ∀ a, (mkS l a).length = l.length := by
  induction l with
  | nil => intro a; rfl
  | cons x l ih => intro a; simp [mkS, ih]
theorem mkS_tot (l : List (List Int)) : ∀ a, tot (mkS l a) = tot l := by
  induction l with
  | nil => intro a; rfl
  | cons x l ih => intro a; simp [mkS, ih, tot_cons, mk_len]
theorem markSS_l0 : ∀ (l pre : List (List Int)) (a : Int) (k : Nat), 0 ≤ a → a + (tot l : Int) ≤ 100000000000 → pre.length + l.length ≤ 1000000000 → tot l ≤ 1000000000 → l.length + 1000000001 < k → laws_markIntSS.l0 k (pre ++ l) a (pre.length : Int) = some (a + (tot l : Int), pre ++ mkS l a)
  | [], pre, a, k, h0, h1, h2, h3, hk => by
    obtain ⟨k, rfl⟩ : ∃ q, k = q + 1 := ⟨k - 1, by omega⟩
    simp only [laws_markIntSS.l0]
    rw [if_neg (by simp)]
    simp [tot, mkS]
  | x :: l, pre, a, k, h0, h1, h2, h3, hk => by
    obtain ⟨k, rfl⟩ : ∃ q, k = q + 1 := ⟨k - 1, by omega⟩
    rw [tot_cons] at h1 h3
    rw [List.length_cons] at h2 hk
    have ih := markSS_l0 l (pre ++ [mk a x.length]) (a + (x.length : Int)) k (by omega) (by omega) (by simp; omega) (by omega) (by omega)
    have e : (pre ++ x :: l).getD ((pre.length : Int)).toNat [] = x := by simp [List.getD_eq_getElem?_getD]
    have e2 : (pre ++ x :: l).set ((pre.length : Int)).toNat (mk a x.length) = (pre ++ [mk a x.length]) ++ l := by simp [List.set_append_right]
    simp only [laws_markIntSS.l0]
    rw [if_pos (by simp; omega), if_pos (by omega), e, markIntS_f x a h0 (by omega) (by omega) (by omega), Option.bind_some, e2, up64 (n := pre.length + 1) (by omega) (by omega)]
    rw [show (((pre.length + 1 : Nat)) : Int) = ((pre ++ [mk a x.length]).length : Int) by simp, ih]
    simp [tot_cons, mkS]
    omega
theorem heldSS_l0 (L : List (List Int)) : ∀ (l pre : List (List Int)) (a : Int) (k : Nat), L = pre ++ mkS l a → 0 ≤ a → a + (tot l : Int) ≤ 100000000000 → pre.length + l.length ≤ 1000000000 → tot l ≤ 1000000000 → l.length + 1000000001 < k → laws_heldIntSS.l0 k L a (pre.length : Int) = some (a + (tot l : Int))
  | [], pre, a, k, hL, h0, h1, h2, h3, hk => by
    obtain ⟨k, rfl⟩ : ∃ q, k = q + 1 := ⟨k - 1, by omega⟩
    simp only [laws_heldIntSS.l0]
    rw [if_neg (by rw [hL]; simp [mkS])]
    simp [tot]
  | x :: l, pre, a, k, hL, h0, h1, h2, h3, hk => by
    obtain ⟨k, rfl⟩ : ∃ q, k = q + 1 := ⟨k - 1, by omega⟩
    rw [tot_cons] at h1 h3
    rw [List.length_cons] at h2 hk
    have ih := heldSS_l0 L l (pre ++ [mk a x.length]) (a + (x.length : Int)) k (by rw [hL]; simp [mkS]) (by omega) (by omega) (by simp; omega) (by omega) (by omega)
    have e : rd_L1 L (pre.length : Int) = mk a x.length := by rw [hL]; unfold rd_L1; simp [mkS, List.getD_eq_getElem?_getD]
    have hlen : L.length = pre.length + (l.length + 1) := by rw [hL]; simp [mkS, mkS_len]
    simp only [laws_heldIntSS.l0]
    rw [if_pos (by omega), if_pos (by omega), e, heldIntS_f x.length a h0 (by omega) (by omega) (by omega), Option.bind_some, if_neg (by omega), up64 (n := pre.length + 1) (by omega) (by omega)]
    rw [show (((pre.length + 1 : Nat)) : Int) = ((pre ++ [mk a x.length]).length : Int) by simp, ih]
    simp [tot_cons]
    omega
theorem markIntSS_ev (l : List (List Int)) (a : Int) (h0 : 0 ≤ a) (h1 : a ≤ 1000000000) (hn : l.length ≤ 1000000000) (ht : tot l ≤ 1000000000) : ∃ k m L, a ≤ m ∧ m = a + (tot l : Int) ∧ L.length = l.length ∧ laws_markIntSS.f k l a = some (m, L) ∧ laws_heldIntSS.f k L a = some m :=
  ⟨3000000000, a + (tot l : Int), mkS l a, by omega, rfl, mkS_len _ _, markSS_l0 l [] a _ h0 (by omega) (by simpa using hn) ht (by omega), heldSS_l0 (mkS l a) l [] a _ rfl h0 (by omega) (by simpa using hn) ht (by omega)⟩

end Aux
def laws_FnExactParseTests.f (k : Nat) (a0 : ByteArray) : Option Bool := if 1048576 < a0.size then some true else ((spec_ParseTests.f k a0).bind fun s => (impl_ParseTests.f k a0).bind fun g => if g = s ∧ s.1.length ≤ 1000000000 ∧ Aux.tot s.1 ≤ 1000000000 then some true else none)
open Go.Proofs.YtbghdbpaihkcjabDoorW.Rng in
set_option maxHeartbeats 4000000 in
set_option maxRecDepth 100000 in
theorem laws_FnExactParseTests.calls (k : Nat) (a0 : ByteArray) (r : Bool) (w : World)  (hG : impl_ParseTests.G w) (h : laws_FnExactParseTests.f k a0 = some r) :
    Calls Tryd.prog 5 #[.string a0] w fun e w' => e = .returned (.bool r) ∧ Below w.heap.size w w' := by
  have HG := Aside0.mk hG
  clear hG
  have HB := Aside0.mk (Below.refl w.heap.size w)
  unfold laws_FnExactParseTests.f at h
  by_cases z0 : 1048576 < a0.size
  · rw [if_pos z0] at h
    obtain rfl := Option.some.inj h
    clear h
    have d1 : decide (1048576 < (a0.size : Int)) = true := decide_eq_true (by omega)
    have d2 : decide (1048576 < a0.size) = true := decide_eq_true z0
    clear z0
    go_enter Tryd.func5, Tryd.ntmps5
    go_wp2
    go_ret
    exact ⟨rfl, HB.out⟩
  · rw [if_neg z0] at h
    have d01 : decide (1048576 < (a0.size : Int)) = false := decide_eq_false (by omega)
    have d02 : decide (1048576 < a0.size) = false := decide_eq_false z0
    replace h := Option.bind_eq_some_iff.mp h
    obtain ⟨s, hs, h⟩ := h
    replace h := Option.bind_eq_some_iff.mp h
    obtain ⟨g, hg, h⟩ := h
    by_cases hgs_ : g = s ∧ s.1.length ≤ 1000000000 ∧ Aux.tot s.1 ≤ 1000000000
    case neg => rw [if_neg hgs_] at h; cases h
    rw [if_pos hgs_] at h
    obtain ⟨hgs, hbd⟩ := hgs_
    subst hgs
    obtain rfl := Option.some.inj h
    clear h
    obtain ⟨R0, R1⟩ := g
    dsimp only at hbd
    have SP := Aside0.mk hs
    have IM := Aside0.mk hg
    clear hs hg
    have eb1 : (R1 != R1) = false := by simp
    obtain ⟨keR, he_⟩ := Aux.eqIntSS_ev R0 hbd.1 hbd.2
    have EQR := Aside0.mk he_
    obtain ⟨kmR, mR, LR, mpR, meR, ml_, mk_, mh_⟩ := Aux.markIntSS_ev R0 1 (by omega) (by omega) hbd.1 hbd.2
    have MLR := Aside0.mk ml_
    have MKR := Aside0.mk mk_
    have MHR := Aside0.mk mh_
    have dm_ : decide (mR < 0) = false := decide_eq_false (by omega)
    have em_ : (mR != mR) = false := by simp
    clear ml_ mk_ mh_ he_
    clear meR mpR hbd
    clear z0
    go_enter Tryd.func5, Tryd.ntmps5
    go_wp2_with fail
    refine (spec_ParseTests.calls k a0 R0 R1 _  SP.out).mono ?_
    rintro e_ w1 ⟨vrw, rfl, hv_, hb_⟩
    obtain ⟨Arw, crw, rfl⟩ := Kd.S_slice hv_
    have Orw := Aside0.mk (OS.made hv_ HB.out.size)
    have M0 := Aside0.mk hb_.size
    have n_ := Aside0.mk (below_step HB.out hb_); clear HB; have HB := n_; clear n_
    clear hb_ hv_
    go_wp2_with fail
    refine (impl_ParseTests.calls k a0 R0 R1 _  (HG.out.below HB.out) IM.out).mono ?_
    rintro e_ w2 ⟨vrg, rfl, hv_, hb_⟩
    obtain ⟨Arg, crg, rfl⟩ := Kd.S_slice hv_
    have Org := Aside0.mk (OS.made hv_ HB.out.size)
    have M1 := Aside0.mk hb_.size
    have n_ := Aside0.mk (below_step HB.out hb_); clear HB; have HB := n_; clear n_
    have n_ := Aside0.mk (Orw.out.below hb_); clear Orw; have Orw := n_; clear n_
    clear hb_ hv_
    go_wp2_with fail
    refine (laws_eqIntSS.calls keR Arg crg R0 Arw crw R0 _ _ (Kd.S_reads' Org.out.row).2.2 (Kd.S_reads' Org.out.row).2.1 (Kd.S_reads' Orw.out.row).2.2 (Kd.S_reads' Orw.out.row).2.1 EQR.out).mono ?_
    rintro e_ w3 ⟨rfl, hd_⟩
    have hb_ := (by first | exact hd_ | exact drawn_below hd_ : Below w2.heap.size w2 w3)
    have M2 := Aside0.mk hb_.size
    have n_ := Aside0.mk (below_step HB.out hb_); clear HB; have HB := n_; clear n_
    have n_ := Aside0.mk (Orw.out.below hb_); clear Orw; have Orw := n_; clear n_
    have n_ := Aside0.mk (Org.out.below hb_); clear Org; have Org := n_; clear n_
    clear hb_ hd_
    go_wp2_with fail
    refine (laws_markIntSS.calls kmR (Bt w1.heap.size w2.heap.size) (.slice Arg R0.length crg) R0 1 mR LR w w3 HB.out Org.out.row MKR.out).mono ?_
    rintro e_ w4 ⟨rfl, hy_, hb_, hk_⟩
    have M3 := Aside0.mk hk_.1
    have n_ := Aside0.mk (Orw.out.kept hk_ (fun k_ h1_ h2_ => by have := M0.out; have := M1.out; have := M2.out; have := M3.out;  unfold Bt at h1_ h2_; omega)); clear Orw; have Orw := n_; clear n_
    have n_ := Aside0.mk (OS.back Org.out hk_ hy_); clear Org; have Org := n_; clear n_
    have n_ := Aside0.mk hb_; clear HB; have HB := n_; clear n_ hb_ hy_ hk_
    have q_ := laws_heldIntSS.calls _ Arg crg LR 1 mR w4 (by have z_ := (Kd.S_reads' Org.out.row).2.2; have y_ := (Kd.S_reads' Org.out.row).1; exact z_) (by rw [MLR.out]; exact (Kd.S_reads' Org.out.row).2.1) MHR.out
    rw [MLR.out] at q_
    go_wp2_with fail
    refine (q_).mono ?_
    rintro e_ w5 ⟨rfl, hd_⟩
    have hb_ := (by first | exact hd_ | exact drawn_below hd_ : Below w4.heap.size w4 w5)
    have M4 := Aside0.mk hb_.size
    have n_ := Aside0.mk (below_step HB.out hb_); clear HB; have HB := n_; clear n_
    have n_ := Aside0.mk (Orw.out.below hb_); clear Orw; have Orw := n_; clear n_
    have n_ := Aside0.mk (Org.out.below hb_); clear Org; have Org := n_; clear n_
    clear hb_ hd_
    clear q_
    go_wp2_with fail
    refine (impl_ParseTests.calls k a0 R0 R1 _  (HG.out.below HB.out) IM.out).mono ?_
    rintro e_ w6 ⟨vrh, rfl, hv_, hb_⟩
    obtain ⟨Arh, crh, rfl⟩ := Kd.S_slice hv_
    have Orh := Aside0.mk (OS.made hv_ HB.out.size)
    have M5 := Aside0.mk hb_.size
    have n_ := Aside0.mk (below_step HB.out hb_); clear HB; have HB := n_; clear n_
    have n_ := Aside0.mk (Orw.out.below hb_); clear Orw; have Orw := n_; clear n_
    have n_ := Aside0.mk (Org.out.below hb_); clear Org; have Org := n_; clear n_
    clear hb_ hv_
    go_wp2_with fail
    refine (laws_eqIntSS.calls keR Arh crh R0 Arw crw R0 _ _ (Kd.S_reads' Orh.out.row).2.2 (Kd.S_reads' Orh.out.row).2.1 (Kd.S_reads' Orw.out.row).2.2 (Kd.S_reads' Orw.out.row).2.1 EQR.out).mono ?_
    rintro e_ w7 ⟨rfl, hd_⟩
    have hb_ := (by first | exact hd_ | exact drawn_below hd_ : Below w6.heap.size w6 w7)
    have M6 := Aside0.mk hb_.size
    have n_ := Aside0.mk (below_step HB.out hb_); clear HB; have HB := n_; clear n_
    have n_ := Aside0.mk (Orw.out.below hb_); clear Orw; have Orw := n_; clear n_
    have n_ := Aside0.mk (Org.out.below hb_); clear Org; have Org := n_; clear n_
    have n_ := Aside0.mk (Orh.out.below hb_); clear Orh; have Orh := n_; clear n_
    clear hb_ hd_
    have q_ := laws_heldIntSS.calls _ Arg crg LR 1 mR w7 (by have z_ := (Kd.S_reads' Org.out.row).2.2; have y_ := (Kd.S_reads' Org.out.row).1; exact z_) (by rw [MLR.out]; exact (Kd.S_reads' Org.out.row).2.1) MHR.out
    rw [MLR.out] at q_
    go_wp2_with fail
    refine (q_).mono ?_
    rintro e_ w8 ⟨rfl, hd_⟩
    have hb_ := (by first | exact hd_ | exact drawn_below hd_ : Below w7.heap.size w7 w8)
    have M7 := Aside0.mk hb_.size
    have n_ := Aside0.mk (below_step HB.out hb_); clear HB; have HB := n_; clear n_
    have n_ := Aside0.mk (Orw.out.below hb_); clear Orw; have Orw := n_; clear n_
    have n_ := Aside0.mk (Org.out.below hb_); clear Org; have Org := n_; clear n_
    have n_ := Aside0.mk (Orh.out.below hb_); clear Orh; have Orh := n_; clear n_
    clear hb_ hd_
    clear q_
    go_wp2
    go_ret
    exact ⟨rfl, HB.out⟩

end Go.Proofs.YtbghdbpaihkcjabDoor.PFnExactParseTests
