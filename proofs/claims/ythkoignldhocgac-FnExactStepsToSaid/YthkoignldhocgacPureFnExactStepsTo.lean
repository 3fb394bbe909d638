/- For every delay, number of people, list of sends and person the program's StepsTo and the reference's agree; no conditions. -/
import Derived.Test.YthkoignldhocgacPFnExactStepsTox5
import Derived.Test.YthkoignldhocgacHelp
set_option linter.unusedSimpArgs false
set_option linter.unusedVariables false
namespace Go.Proofs.Ythkoignldhocgac.Pure
open Go.RowKit Go.Proofs.Ythkoignldhocgac.PFnExactStepsTo Go.Proofs.YthkoignldhocgacW.PrintWords Go.Proofs.YthkoignldhocgacW.PrintLast Go.Proofs.YthkoignldhocgacW.PrintMore

theorem w64 {x : Int} (h0 : -9223372036854775808 ≤ x) (h1 : x ≤ 9223372036854775807) : wrap64 x = x := by unfold wrap64; omega
theorem up64 {i n : Nat} (h : i < n) (hn : n ≤ 4611686018427387904) : wrap64 ((i : Int) + 1) = ((i + 1 : Nat) : Int) := by rw [w64 (by omega) (by omega)]; omega
theorem rd_lt {xs : List Int} {i : Nat} (h : i < xs.length) : rd xs (i : Int) = xs[i] := by unfold rd; simp [List.getD_eq_getElem?_getD, h]
/-- An element of the law's own type, as the program's. -/
def cvSend (x : S44) : S42 := ⟨x.f0, x.f1, x.f2⟩
theorem rdSend0 {xs : List S44} {i : Nat} (h : i < xs.length) : rd_T44 xs (i : Int) = xs[i] := by unfold rd_T44; simp [List.getD_eq_getElem?_getD, h]
theorem rdSend1 {xs : List S42} {i : Nat} (h : i < xs.length) : rd_T42 xs (i : Int) = xs[i] := by unfold rd_T42; simp [List.getD_eq_getElem?_getD, h]
theorem toSendS_l0 (a : List S44) (hn : a.length ≤ 4611686018427387904) : ∀ (d i k : Nat), i + d = a.length → d < k → laws_toSendS.l0 k a ((a.take i).map cvSend ++ List.replicate d z42) (i : Int) = some (a.map cvSend)
  | 0, i, k, hi, hk => by
    obtain ⟨k, rfl⟩ : ∃ q, k = q + 1 := ⟨k - 1, by omega⟩
    simp only [laws_toSendS.l0]
    rw [if_neg (by omega), List.take_of_length_le (by omega)]
    simp
  | d + 1, i, k, hi, hk => by
    obtain ⟨k, rfl⟩ : ∃ q, k = q + 1 := ⟨k - 1, by omega⟩
    have ih := toSendS_l0 a hn d (i + 1) k (by omega) (by omega)
    have ha : i < a.length := by omega
    simp only [laws_toSendS.l0, laws_toSend.f, Option.bind_some]
    rw [if_pos (by omega), if_pos (by omega), if_pos (by simp; omega), up64 ha hn, rdSend0 ha]
    have he : ((a.take i).map cvSend ++ List.replicate (d + 1) z42).set ((i : Nat) : Int).toNat (cvSend a[i]) = (a.take (i + 1)).map cvSend ++ List.replicate d z42 := by
      rw [List.set_append_right _ _ (by simp; omega), List.replicate_succ]
      have e : ((i : Nat) : Int).toNat - ((a.take i).map cvSend).length = 0 := by simp; omega
      rw [e, List.set_cons_zero, List.take_succ_eq_append_getElem ha]
      simp only [List.append_assoc, List.singleton_append, List.map_append, List.map_cons, List.map_nil]
    exact (congrArg (fun z => laws_toSendS.l0 k a z ((i + 1 : Nat) : Int)) he).trans ih
theorem toSendS_f (a : List S44) (hn : a.length ≤ 1048576) {k : Nat} (hk : a.length < k) : laws_toSendS.f k a = some (a.map cvSend) := by
  unfold laws_toSendS.f
  rw [if_pos (by omega), if_pos (by omega)]
  exact toSendS_l0 a (by omega) a.length 0 k (by omega) hk
theorem eqSendS_l0 (a : List S42) (hn : a.length ≤ 4611686018427387904) : ∀ (d i k : Nat), i + d = a.length → d < k → laws_eqSendS.l0 k a a (i : Int) = some true
  | 0, i, k, hi, hk => by
    obtain ⟨k, rfl⟩ : ∃ q, k = q + 1 := ⟨k - 1, by omega⟩
    simp only [laws_eqSendS.l0]
    rw [if_neg (by omega)]
  | d + 1, i, k, hi, hk => by
    obtain ⟨k, rfl⟩ : ∃ q, k = q + 1 := ⟨k - 1, by omega⟩
    have ih := eqSendS_l0 a hn d (i + 1) k (by omega) (by omega)
    have ha : i < a.length := by omega
    simp only [laws_eqSendS.l0, laws_eqSend.f]
    rw [if_pos (by omega), if_pos (by omega), if_pos (by omega), up64 ha hn]
    simpa using ih
theorem eqSendS_f (a : List S42) (hn : a.length ≤ 4611686018427387904) {k : Nat} (hk : a.length < k) : laws_eqSendS.f k a a = some true := by
  unfold laws_eqSendS.f
  rw [if_pos rfl]
  exact eqSendS_l0 a hn a.length 0 k (by omega) hk
theorem szSendS_f (a : List S44) (hn : a.length ≤ 9223372036854775807) : laws_szSendS.f a 1048576 = some (if a.length ≤ 1048576 then 1048576 - (a.length : Int) else -1) := by
  unfold laws_szSendS.f
  rw [w64 (by omega) (by omega)]
  by_cases h : a.length ≤ 1048576
  · rw [if_neg (by omega), if_pos h]
  · rw [if_pos (by omega), if_neg h]
theorem inS (x lo hi : Int) : spec_l1In.f x lo hi = some (decide (lo ≤ x ∧ x ≤ hi)) := by
  unfold spec_l1In.f
  by_cases h : lo ≤ x
  · rw [if_pos h]; simp [h]
  · rw [if_neg h]; simp [h]
theorem inI (x lo hi : Int) : impl_within.f x lo hi = some (decide (lo ≤ x ∧ x ≤ hi)) := by
  unfold impl_within.f
  by_cases h : lo ≤ x
  · rw [if_pos h]; simp [h]
  · rw [if_neg h]; simp [h]
/-- The second walk: has each one who sends come to know it? -/
theorem arr_l3 (l : List S42) (hn : l.length ≤ 1000) (x8 : List Int) (hf : ∀ c ∈ l, 0 ≤ c.f0 ∧ c.f0 < (x8.length : Int)) : ∀ (dd i : Nat), i + dd = l.length → ∃ r : List Int × Bool, (r.2 = true → r.1 = x8) ∧ (r.2 = false → r.1 = []) ∧ (∀ k, dd < k → spec_deArrivals.l3 k x8 l (l.length : Int) (i : Int) = some r) ∧ (∀ k, dd < k → impl_arrivals.l1 k x8 l (l.length : Int) (i : Int) = some r)
  | 0, i, hi => by
    refine ⟨(x8, true), fun _ => rfl, fun h => (by cases h), fun k hk => ?_, fun k hk => ?_⟩
    · obtain ⟨k, rfl⟩ : ∃ q, k = q + 1 := ⟨k - 1, by omega⟩
      simp only [spec_deArrivals.l3]
      rw [if_neg (by omega)]
    · obtain ⟨k, rfl⟩ : ∃ q, k = q + 1 := ⟨k - 1, by omega⟩
      simp only [impl_arrivals.l1]
      rw [if_neg (by omega)]
  | dd + 1, i, hi => by
    obtain ⟨r, h1, h0, hs, hm⟩ := arr_l3 l hn x8 hf dd (i + 1) (by omega)
    have ha : i < l.length := by omega
    obtain ⟨f0, f1⟩ := hf l[i] (List.getElem_mem ha)
    by_cases e1 : rd x8 l[i].f0 < 0
    · refine ⟨([], false), fun h => (by cases h), fun _ => rfl, fun k hk => ?_, fun k hk => ?_⟩
      · obtain ⟨k, rfl⟩ : ∃ q, k = q + 1 := ⟨k - 1, by omega⟩
        simp only [spec_deArrivals.l3]
        rw [if_pos (by omega), if_pos (by omega), if_pos (by omega), rdSend1 ha, if_pos f0, if_pos f1, if_pos e1]
      · obtain ⟨k, rfl⟩ : ∃ q, k = q + 1 := ⟨k - 1, by omega⟩
        simp only [impl_arrivals.l1]
        rw [if_pos (by omega), if_pos (by omega), if_pos (by omega), rdSend1 ha, if_pos f0, if_pos f1, if_pos e1]
    · by_cases e2 : rd x8 l[i].f0 > l[i].f2
      · refine ⟨([], false), fun h => (by cases h), fun _ => rfl, fun k hk => ?_, fun k hk => ?_⟩
        · obtain ⟨k, rfl⟩ : ∃ q, k = q + 1 := ⟨k - 1, by omega⟩
          simp only [spec_deArrivals.l3]
          rw [if_pos (by omega), if_pos (by omega), if_pos (by omega), rdSend1 ha, if_pos f0, if_pos f1, if_neg e1, if_pos e2]
        · obtain ⟨k, rfl⟩ : ∃ q, k = q + 1 := ⟨k - 1, by omega⟩
          simp only [impl_arrivals.l1]
          rw [if_pos (by omega), if_pos (by omega), if_pos (by omega), rdSend1 ha, if_pos f0, if_pos f1, if_neg e1, if_pos e2]
      · refine ⟨r, h1, h0, fun k hk => ?_, fun k hk => ?_⟩
        · obtain ⟨k, rfl⟩ : ∃ q, k = q + 1 := ⟨k - 1, by omega⟩
          simp only [spec_deArrivals.l3]
          rw [if_pos (by omega), if_pos (by omega), if_pos (by omega), rdSend1 ha, if_pos f0, if_pos f1, if_neg e1, if_neg e2, up64 ha (by omega)]
          exact hs k (by omega)
        · obtain ⟨k, rfl⟩ : ∃ q, k = q + 1 := ⟨k - 1, by omega⟩
          simp only [impl_arrivals.l1]
          rw [if_pos (by omega), if_pos (by omega), if_pos (by omega), rdSend1 ha, if_pos f0, if_pos f1, if_neg e1, if_neg e2, up64 ha (by omega)]
          exact hm k (by omega)
theorem arr_l2 (d a : Int) (l : List S42) (x8 : List Int) (n i : Int) (t : List S42) (hn : t.length ≤ 1000) (c0 c1 c2 : Int) (r : List Int × Bool) (B : Nat) (H : ∀ k, B ≤ k → spec_deArrivals.l1 k d a l x8 l n (wrap64 (i + 1)) = some r) : ∀ (dd j k : Nat), j + dd = t.length → B + dd < k → spec_deArrivals.l2 k d a l x8 l n i t (t.length : Int) (j : Int) c0 c1 c2 = some (if (t.drop j).any (impl_arrivals_1.p c0 c2) then ([], false) else r)
  | 0, j, k, hj, hk => by
    obtain ⟨k, rfl⟩ : ∃ q, k = q + 1 := ⟨k - 1, by omega⟩
    simp only [spec_deArrivals.l2]
    rw [if_neg (by omega), List.drop_eq_nil_of_le (by omega)]
    exact H k (by omega)
  | dd + 1, j, k, hj, hk => by
    obtain ⟨k, rfl⟩ : ∃ q, k = q + 1 := ⟨k - 1, by omega⟩
    have ih := arr_l2 d a l x8 n i t hn c0 c1 c2 r B H dd (j + 1) k (by omega) (by omega)
    have ha : j < t.length := by omega
    simp only [spec_deArrivals.l2]
    rw [if_pos (by omega), if_pos (by omega), if_pos (by omega), rdSend1 ha, up64 ha (by omega), ih, List.drop_eq_getElem_cons ha, List.any_cons]
    unfold impl_arrivals_1.p
    by_cases h0 : t[j].f0 = c0
    · by_cases h2 : t[j].f2 = c2
      · simp [h0, h2]
      · rw [if_pos h0, if_neg h2]
        simp [h0, h2]
    · rw [if_neg h0]
      simp [h0]
theorem rd_set_ne {xs : List Int} {i j : Nat} {v : Int} (h : i ≠ j) : rd (xs.set i v) (j : Int) = rd xs (j : Int) := by
  unfold rd
  simp [List.getD_eq_getElem?_getD, List.getElem?_set, h]
theorem arr_l1 (d a : Int) (ha0 : 1 ≤ a) (ha1 : a ≤ 40) (l : List S42) (hn : l.length ≤ 40) : ∀ (dd i : Nat) (x8 : List Int), i + dd = l.length → (x8.length : Int) = a → rd x8 0 = 0 → (∀ c ∈ l.take i, 0 ≤ c.f0 ∧ c.f0 < a) → ∃ r : List Int × Bool, (r.2 = true → (r.1.length : Int) = a ∧ rd r.1 0 = 0) ∧ (r.2 = false → r.1 = []) ∧ (∀ k, 100 + 60 * dd ≤ k → spec_deArrivals.l1 k d a l x8 l (l.length : Int) (i : Int) = some r) ∧ (∀ k, 100 + 60 * dd ≤ k → impl_arrivals.l0 k d a l x8 l (l.length : Int) (i : Int) = some r)
  | 0, i, x8, hi, hx, h0, hc => by
    rw [List.take_of_length_le (by omega)] at hc
    obtain ⟨r, h1, h2, hs, hm⟩ := arr_l3 l (by omega) x8 (by rw [hx]; exact hc) l.length 0 (by omega)
    refine ⟨r, fun h => by rw [h1 h]; exact ⟨hx, h0⟩, h2, fun k hk => ?_, fun k hk => ?_⟩
    · obtain ⟨k, rfl⟩ : ∃ q, k = q + 1 := ⟨k - 1, by omega⟩
      simp only [spec_deArrivals.l1]
      rw [if_neg (by omega)]
      exact hs k (by omega)
    · obtain ⟨k, rfl⟩ : ∃ q, k = q + 1 := ⟨k - 1, by omega⟩
      simp only [impl_arrivals.l0]
      rw [if_neg (by omega)]
      exact hm k (by omega)
  | dd + 1, i, x8, hi, hx, h0, hc => by
    have ha : i < l.length := by omega
    have wa : wrap64 (a - 1) = a - 1 := w64 (by omega) (by omega)
    have no : ∀ k, 2 ≤ k → spec_deArrivals.j2 k d a l x8 (i : Int) l (l.length : Int) (i : Int) true l[i].f0 l[i].f1 l[i].f2 = some ([], false) := fun k hk => by
      obtain ⟨k, rfl⟩ : ∃ q, k = q + 1 := ⟨k - 1, by omega⟩
      simp only [spec_deArrivals.j2, if_true]
    have no' : ∀ k, 2 ≤ k → impl_arrivals.j1 k d a l x8 (i : Int) l (l.length : Int) (i : Int) true l[i].f0 l[i].f1 l[i].f2 = some ([], false) := fun k hk => by
      obtain ⟨k, rfl⟩ : ∃ q, k = q + 1 := ⟨k - 1, by omega⟩
      simp only [impl_arrivals.j1, if_true]
    have fall : (∀ k, 100 ≤ k → spec_deArrivals.l1 (k + 1) d a l x8 l (l.length : Int) (i : Int) = some ([], false)) → (∀ k, 100 ≤ k → impl_arrivals.l0 (k + 1) d a l x8 l (l.length : Int) (i : Int) = some ([], false)) → ∃ r : List Int × Bool, (r.2 = true → (r.1.length : Int) = a ∧ rd r.1 0 = 0) ∧ (r.2 = false → r.1 = []) ∧ (∀ k, 100 + 60 * (dd + 1) ≤ k → spec_deArrivals.l1 k d a l x8 l (l.length : Int) (i : Int) = some r) ∧ (∀ k, 100 + 60 * (dd + 1) ≤ k → impl_arrivals.l0 k d a l x8 l (l.length : Int) (i : Int) = some r) := fun hs hm => by
      refine ⟨([], false), fun h => (by cases h), fun _ => rfl, fun k hk => ?_, fun k hk => ?_⟩
      · obtain ⟨k, rfl⟩ : ∃ q, k = q + 1 := ⟨k - 1, by omega⟩
        exact hs k (by omega)
      · obtain ⟨k, rfl⟩ : ∃ q, k = q + 1 := ⟨k - 1, by omega⟩
        exact hm k (by omega)
    by_cases p1 : 0 ≤ l[i].f0 ∧ l[i].f0 ≤ a - 1
    case neg =>
      refine fall (fun k hk => ?_) (fun k hk => ?_)
      · simp only [spec_deArrivals.l1]
        rw [if_pos (by omega), if_pos (by omega), if_pos (by omega), rdSend1 ha, wa, inS]
        simp only [p1, decide_false, Option.bind_some, Bool.false_eq_true, if_false]
        exact no k (by omega)
      · simp only [impl_arrivals.l0]
        rw [if_pos (by omega), if_pos (by omega), if_pos (by omega), rdSend1 ha, wa, inI]
        simp only [p1, decide_false, Option.bind_some, Bool.false_eq_true, if_false]
        exact no' k (by omega)
    by_cases p2 : 1 ≤ l[i].f1 ∧ l[i].f1 ≤ a - 1
    case neg =>
      refine fall (fun k hk => ?_) (fun k hk => ?_)
      · simp only [spec_deArrivals.l1]
        rw [if_pos (by omega), if_pos (by omega), if_pos (by omega), rdSend1 ha, wa, inS, inS]
        simp only [p1, p2, decide_false, decide_true, and_self, Option.bind_some, Bool.false_eq_true, if_false, if_true]
        exact no k (by omega)
      · simp only [impl_arrivals.l0]
        rw [if_pos (by omega), if_pos (by omega), if_pos (by omega), rdSend1 ha, wa, inI, inI]
        simp only [p1, p2, decide_false, decide_true, and_self, Option.bind_some, Bool.false_eq_true, if_false, if_true]
        exact no' k (by omega)
    by_cases p3 : l[i].f0 = l[i].f1
    case pos =>
      refine fall (fun k hk => ?_) (fun k hk => ?_)
      · simp only [spec_deArrivals.l1]
        rw [if_pos (by omega), if_pos (by omega), if_pos (by omega), rdSend1 ha, wa, inS, inS]
        simp only [p1, p2, decide_true, and_self, Option.bind_some, if_true]
        rw [if_pos p3]
        exact no k (by omega)
      · simp only [impl_arrivals.l0]
        rw [if_pos (by omega), if_pos (by omega), if_pos (by omega), rdSend1 ha, wa, inI, inI]
        simp only [p1, p2, decide_true, and_self, Option.bind_some, if_true]
        rw [if_pos p3]
        exact no' k (by omega)
    by_cases p4 : 0 ≤ l[i].f2 ∧ l[i].f2 ≤ 60
    case neg =>
      refine fall (fun k hk => ?_) (fun k hk => ?_)
      · simp only [spec_deArrivals.l1]
        rw [if_pos (by omega), if_pos (by omega), if_pos (by omega), rdSend1 ha, wa, inS, inS, inS]
        simp only [p1, p2, p4, decide_true, decide_false, and_self, Option.bind_some, if_true, Bool.false_eq_true, if_false]
        rw [if_neg p3]
        exact no k (by omega)
      · simp only [impl_arrivals.l0, impl_isMinute.f]
        rw [if_pos (by omega), if_pos (by omega), if_pos (by omega), rdSend1 ha, wa, inI, inI, inI]
        simp only [p1, p2, p4, decide_true, decide_false, and_self, Option.bind_some, if_true, Bool.false_eq_true, if_false]
        rw [if_neg p3]
        exact no' k (by omega)
    by_cases p5 : rd x8 l[i].f1 ≥ 0
    case pos =>
      refine fall (fun k hk => ?_) (fun k hk => ?_)
      · simp only [spec_deArrivals.l1]
        rw [if_pos (by omega), if_pos (by omega), if_pos (by omega), rdSend1 ha, wa, inS, inS, inS]
        simp only [p1, p2, p4, decide_true, and_self, Option.bind_some, if_true]
        rw [if_neg p3, if_pos (by omega), if_pos (by omega), decide_eq_true p5]
        exact no k (by omega)
      · simp only [impl_arrivals.l0, impl_isMinute.f]
        rw [if_pos (by omega), if_pos (by omega), if_pos (by omega), rdSend1 ha, wa, inI, inI, inI]
        simp only [p1, p2, p4, decide_true, and_self, Option.bind_some, if_true]
        rw [if_neg p3, if_pos (by omega), if_pos (by omega), decide_eq_true p5]
        exact no' k (by omega)
    have e0 : rd (x8.set l[i].f1.toNat (wrap64 (l[i].f2 + d))) 0 = 0 := by
      have := rd_set_ne (xs := x8) (i := l[i].f1.toNat) (j := 0) (v := wrap64 (l[i].f2 + d)) (by omega)
      exact this.trans h0
    obtain ⟨r, h1, h2, hs, hm⟩ := arr_l1 d a ha0 ha1 l hn dd (i + 1) (x8.set l[i].f1.toNat (wrap64 (l[i].f2 + d))) (by omega) (by simpa using hx) e0 (fun c hm => by
      rw [List.take_succ_eq_append_getElem ha, List.mem_append, List.mem_singleton] at hm
      rcases hm with hm | rfl
      · exact hc c hm
      · exact ⟨p1.1, by omega⟩)
    have hq := arr_l2 d a l (x8.set l[i].f1.toNat (wrap64 (l[i].f2 + d))) (l.length : Int) (i : Int) (l.take i) (by rw [List.length_take]; omega) l[i].f0 l[i].f1 l[i].f2 r (100 + 60 * dd) (fun k hk => by rw [up64 ha (by omega)]; exact hs k hk) (l.take i).length 0
    have hlt : (l.take i).length = i := by rw [List.length_take]; omega
    rw [hlt] at hq
    refine ⟨if (l.take i).any (impl_arrivals_1.p l[i].f0 l[i].f2) then ([], false) else r, ?_, ?_, fun k hk => ?_, fun k hk => ?_⟩
    · split
      · intro h; cases h
      · exact h1
    · split
      · intro _; rfl
      · exact h2
    · obtain ⟨k, rfl⟩ : ∃ q, k = q + 2 := ⟨k - 2, by omega⟩
      simp only [spec_deArrivals.l1]
      rw [if_pos (by omega), if_pos (by omega), if_pos (by omega), rdSend1 ha, wa, inS, inS, inS]
      simp only [p1, p2, p4, decide_true, and_self, Option.bind_some, if_true]
      rw [if_neg p3, if_pos (by omega), if_pos (by omega), decide_eq_false p5]
      simp only [spec_deArrivals.j2, Bool.false_eq_true, if_false]
      rw [if_pos (by omega), if_pos (by omega), if_pos (by omega), if_pos (by omega), Int.toNat_natCast]
      have := hq k (by omega) (by omega)
      simp only [Option.bind_some, hlt]
      exact this
    · obtain ⟨k, rfl⟩ : ∃ q, k = q + 2 := ⟨k - 2, by omega⟩
      simp only [impl_arrivals.l0, impl_isMinute.f]
      rw [if_pos (by omega), if_pos (by omega), if_pos (by omega), rdSend1 ha, wa, inI, inI, inI]
      simp only [p1, p2, p4, decide_true, and_self, Option.bind_some, if_true]
      rw [if_neg p3, if_pos (by omega), if_pos (by omega), decide_eq_false p5]
      simp only [impl_arrivals.j1, Bool.false_eq_true, if_false, impl_arrivals_1.f, Option.bind_some]
      rw [if_pos (by omega), if_pos (by omega), Int.toNat_natCast]
      by_cases e : (l.take i).any (impl_arrivals_1.p l[i].f0 l[i].f2) = true
      · rw [if_pos e, if_pos e]
      · rw [if_neg e, if_neg e, if_pos (by omega), if_pos (by omega), up64 ha (by omega)]
        exact hm k (by omega)
theorem arr_l0 (d a : Int) (l : List S42) (m : Nat) (hm : m ≤ 40) (r : List Int × Bool) (B : Nat) (hpos : 0 < m) (H : ∀ k, B ≤ k → spec_deArrivals.l1 k d a l ((List.replicate m (-1)).set 0 0) l (l.length : Int) 0 = some r) : ∀ (dd i k : Nat), i + dd = m → B + dd < k → spec_deArrivals.l0 k d a l (List.replicate i (-1) ++ List.replicate dd 0) (m : Int) (i : Int) = some r
  | 0, i, k, hi, hk => by
    obtain ⟨k, rfl⟩ : ∃ q, k = q + 1 := ⟨k - 1, by omega⟩
    simp only [spec_deArrivals.l0]
    rw [if_neg (by omega), if_pos (by simp; omega)]
    have e : i = m := by omega
    subst e
    simpa using H k (by omega)
  | dd + 1, i, k, hi, hk => by
    obtain ⟨k, rfl⟩ : ∃ q, k = q + 1 := ⟨k - 1, by omega⟩
    have ih := arr_l0 d a l m hm r B hpos H dd (i + 1) k (by omega) (by omega)
    simp only [spec_deArrivals.l0]
    rw [if_pos (by omega), if_pos (by omega), if_pos (by simp; omega), w64 (x := (i : Int) + 1) (by omega) (by omega)]
    have e : (List.replicate i (-1 : Int) ++ List.replicate (dd + 1) 0).set ((i : Nat) : Int).toNat (-1) = List.replicate (i + 1) (-1) ++ List.replicate dd 0 := by
      rw [Int.toNat_natCast, List.set_append_right _ _ (by simp), List.length_replicate, Nat.sub_self, List.replicate_succ (n := dd), List.set_cons_zero, List.replicate_succ' (n := i)]
      simp
    rw [e]
    exact ih
/-- The two tellings of the arrivals agree. -/
theorem arr_both (d a : Int) (ha0 : 1 ≤ a) (ha1 : a ≤ 40) (l : List S42) (hl : l.length ≤ 1048576) : ∃ r : List Int × Bool, (r.2 = true → (r.1.length : Int) = a ∧ rd r.1 0 = 0) ∧ (r.2 = false → r.1 = []) ∧ (∀ k, 5000 ≤ k → spec_deArrivals.f k d a l = some r) ∧ (∀ k, 5000 ≤ k → impl_arrivals.f k d a l = some r) := by
  by_cases h : (l.length : Int) > 40
  · refine ⟨([], false), fun h => (by cases h), fun _ => rfl, fun k _ => ?_, fun k _ => ?_⟩
    · unfold spec_deArrivals.f
      rw [if_pos h]
    · unfold impl_arrivals.f
      rw [if_pos h]
  · obtain ⟨m, rfl⟩ := Int.eq_ofNat_of_zero_le (show 0 ≤ a by omega)
    have e0 : rd ((List.replicate m (-1)).set 0 0) 0 = 0 := by
      obtain ⟨q, rfl⟩ : ∃ q, m = q + 1 := ⟨m - 1, by omega⟩
      rfl
    obtain ⟨r, h1, h2, hs, hi⟩ := arr_l1 d (m : Int) ha0 ha1 l (by omega) l.length 0 ((List.replicate m (-1)).set 0 0) (by omega) (by simp) e0 (by simp)
    refine ⟨r, h1, h2, fun k hk => ?_, fun k hk => ?_⟩
    · unfold spec_deArrivals.f
      rw [if_neg h, if_pos (by omega), if_pos (by omega)]
      have := arr_l0 d (m : Int) l m (by omega) r (100 + 60 * l.length) (by omega) hs m 0 k (by omega) (by omega)
      simpa using this
    · unfold impl_arrivals.f slices_Repeat_int_int.f
      rw [if_neg h, if_pos ⟨rfl, by omega, by omega⟩]
      simp only [Option.bind_some]
      rw [if_pos (by simp; omega)]
      have := hi k (by omega)
      simpa [rd] using this
theorem askS (d a : Int) : spec_deAsked.f d a = some (decide (1 ≤ d ∧ d ≤ 10) && decide (1 ≤ a ∧ a ≤ 40)) := by
  unfold spec_deAsked.f spec_deDelay.f
  simp only [inS, Option.bind_some]
  by_cases h : 1 ≤ d ∧ d ≤ 10
  · rw [if_pos (decide_eq_true h), decide_eq_true h]; rfl
  · rw [if_neg (by simp [h])]; simp [h]
theorem askI (d a : Int) : impl_areDelayed.f d a = some (decide (1 ≤ d ∧ d ≤ 10) && decide (1 ≤ a ∧ a ≤ 40)) := by
  unfold impl_areDelayed.f impl_isDelay.f
  simp only [inI, Option.bind_some]
  by_cases h : 1 ≤ d ∧ d ≤ 10
  · rw [if_pos (decide_eq_true h), decide_eq_true h]; rfl
  · rw [if_neg (by simp [h])]; simp [h]
theorem good_l1 (l : List S42) (hn : l.length ≤ 1000) (x8 o : List Int) : ∀ (dd i k : Nat), i + dd = l.length → impl_arrivals.l1 k x8 l (l.length : Int) (i : Int) = some (o, true) → o = x8 ∧ ∀ c ∈ l.drop i, 0 ≤ rd x8 c.f0 ∧ rd x8 c.f0 ≤ c.f2
  | dd, i, 0, hi, h => by simp [impl_arrivals.l1] at h
  | 0, i, k + 1, hi, h => by
    simp only [impl_arrivals.l1] at h
    rw [if_neg (by omega)] at h
    rw [List.drop_eq_nil_of_le (by omega)]
    simp at h
    exact ⟨h.symm, by simp⟩
  | dd + 1, i, k + 1, hi, h => by
    have ha : i < l.length := by omega
    simp only [impl_arrivals.l1] at h
    rw [if_pos (by omega), if_pos (by omega), if_pos (by omega), rdSend1 ha, up64 ha (by omega)] at h
    by_cases e0 : 0 ≤ l[i].f0
    · by_cases e1 : l[i].f0 < (x8.length : Int)
      · rw [if_pos e0, if_pos e1] at h
        by_cases e2 : rd x8 l[i].f0 < 0
        · rw [if_pos e2] at h; simp at h
        · by_cases e3 : rd x8 l[i].f0 > l[i].f2
          · rw [if_neg e2, if_pos e3] at h; simp at h
          · rw [if_neg e2, if_neg e3] at h
            obtain ⟨h1, h2⟩ := good_l1 l hn x8 o dd (i + 1) k (by omega) h
            refine ⟨h1, fun c hc => ?_⟩
            rw [List.drop_eq_getElem_cons ha, List.mem_cons] at hc
            rcases hc with rfl | hc
            · omega
            · exact h2 c hc
      · rw [if_pos e0, if_neg e1] at h; simp at h
    · rw [if_neg e0] at h; simp at h
/-- Sends that are taken: all is in its bounds, nobody is told twice, and what is sent is known. -/
structure Good (d a : Int) (l : List S42) (o : List Int) : Prop where
  in_ : ∀ c ∈ l, (0 ≤ c.f0 ∧ c.f0 < a) ∧ (1 ≤ c.f1 ∧ c.f1 < a) ∧ rd o c.f1 = c.f2 + d ∧ 0 ≤ rd o c.f0 ∧ rd o c.f0 ≤ c.f2 ∧ c.f2 ≤ 60
  apart : l.Pairwise fun c e => c.f1 ≠ e.f1
theorem rd_set_eq {xs : List Int} {i : Int} {v : Int} (h0 : 0 ≤ i) (h1 : i < (xs.length : Int)) : rd (xs.set i.toNat v) i = v := by
  unfold rd
  have : i.toNat < xs.length := by omega
  simp [List.getD_eq_getElem?_getD, List.getElem?_set, this]
theorem rd_set_other {xs : List Int} {i j : Int} {v : Int} (h0 : 0 ≤ i) (hj : 0 ≤ j) (h : i ≠ j) : rd (xs.set i.toNat v) j = rd xs j := by
  have := rd_set_ne (xs := xs) (i := i.toNat) (j := j.toNat) (v := v) (by omega)
  rwa [Int.toNat_of_nonneg hj] at this
theorem good_l0 (d a : Int) (hd : 1 ≤ d ∧ d ≤ 10) (ha0 : 1 ≤ a) (ha1 : a ≤ 40) (l : List S42) (hn : l.length ≤ 40) (o : List Int) : ∀ (dd i k : Nat) (x8 : List Int), i + dd = l.length → (x8.length : Int) = a → (∀ c ∈ l.take i, (0 ≤ c.f0 ∧ c.f0 < a) ∧ (1 ≤ c.f1 ∧ c.f1 < a) ∧ rd x8 c.f1 = c.f2 + d ∧ 0 ≤ c.f2 ∧ c.f2 ≤ 60) → ((l.take i).Pairwise fun c e => c.f1 ≠ e.f1) → impl_arrivals.l0 k d a l x8 l (l.length : Int) (i : Int) = some (o, true) → Good d a l o
  | dd, i, 0, x8, hi, hx, hc, hp, h => by simp [impl_arrivals.l0] at h
  | dd, i, 1, x8, hi, hx, hc, hp, h => by
    simp [impl_arrivals.l0, impl_arrivals.l1, impl_arrivals.j1, inI, impl_isMinute.f] at h
  | 0, i, k + 2, x8, hi, hx, hc, hp, h => by
    rw [List.take_of_length_le (by omega)] at hc hp
    rw [impl_arrivals.l0] at h
    rw [if_neg (by omega)] at h
    obtain ⟨rfl, h2⟩ := good_l1 l (by omega) x8 o l.length 0 (k + 1) (by omega) h
    exact ⟨fun c hm => ⟨(hc c hm).1, (hc c hm).2.1, (hc c hm).2.2.1, (h2 c hm).1, (h2 c hm).2, (hc c hm).2.2.2.2⟩, hp⟩
  | dd + 1, i, k + 2, x8, hi, hx, hc, hp, h => by
    have ha : i < l.length := by omega
    have wa : wrap64 (a - 1) = a - 1 := w64 (by omega) (by omega)
    rw [impl_arrivals.l0] at h
    rw [if_pos (by omega), if_pos (by omega), if_pos (by omega), rdSend1 ha, wa, inI, inI] at h
    simp only [impl_isMinute.f, inI, impl_arrivals.j1, if_true, Option.bind_some, Bool.false_eq_true, if_false, decide_eq_true_eq] at h
    by_cases p1 : 0 ≤ l[i].f0 ∧ l[i].f0 ≤ a - 1
    case neg => rw [if_neg p1] at h; simp at h
    by_cases p2 : 1 ≤ l[i].f1 ∧ l[i].f1 ≤ a - 1
    case neg => rw [if_pos p1, if_neg p2] at h; simp at h
    by_cases p3 : l[i].f0 = l[i].f1
    case pos => rw [if_pos p1, if_pos p2, if_pos p3] at h; simp at h
    by_cases p4 : 0 ≤ l[i].f2 ∧ l[i].f2 ≤ 60
    case neg => rw [if_pos p1, if_pos p2, if_neg p3, if_neg p4] at h; simp at h
    rw [if_pos p1, if_pos p2, if_neg p3, if_pos p4, if_pos (by omega), if_pos (by omega)] at h
    by_cases p5 : rd x8 l[i].f1 ≥ 0
    case pos => rw [if_pos p5] at h; simp at h
    rw [if_neg p5, if_pos (by omega), if_pos (by omega)] at h
    simp only [impl_arrivals_1.f, Option.bind_some, Int.toNat_natCast] at h
    split at h
    · simp at h
    · rw [if_pos (by omega), if_pos (by omega), up64 ha (by omega), w64 (x := l[i].f2 + d) (by omega) (by omega)] at h
      refine good_l0 d a hd ha0 ha1 l hn o dd (i + 1) k (x8.set l[i].f1.toNat (l[i].f2 + d)) (by omega) (by simpa using hx) (fun c hm => ?_) ?_ h
      · rw [List.take_succ_eq_append_getElem ha, List.mem_append, List.mem_singleton] at hm
        rcases hm with hm | rfl
        · obtain ⟨c1, c2, c3, c4, c5⟩ := hc c hm
          refine ⟨c1, c2, ?_, c4, c5⟩
          have hne : l[i].f1 ≠ c.f1 := fun e => by rw [e] at p5; omega
          rw [rd_set_other (by omega) (by omega) hne]
          exact c3
        · refine ⟨⟨p1.1, by omega⟩, ⟨p2.1, by omega⟩, ?_, p4.1, p4.2⟩
          exact rd_set_eq (by omega) (by omega)
      · rw [List.take_succ_eq_append_getElem ha, List.pairwise_append]
        refine ⟨hp, List.pairwise_singleton _ _, fun c hm e he => ?_⟩
        rw [List.mem_singleton] at he
        subst he
        obtain ⟨c1, c2, c3, c4, c5⟩ := hc c hm
        intro e
        rw [← e] at p5
        omega
theorem arr_good (d a : Int) (hd : 1 ≤ d ∧ d ≤ 10) (ha0 : 1 ≤ a) (ha1 : a ≤ 40) (l : List S42) (o : List Int) (k : Nat) (h : impl_arrivals.f k d a l = some (o, true)) : Good d a l o ∧ l.length ≤ 40 := by
  unfold impl_arrivals.f slices_Repeat_int_int.f at h
  by_cases hl : (l.length : Int) > 40
  · rw [if_pos hl] at h; simp at h
  · rw [if_neg hl, if_pos ⟨rfl, by omega, by omega⟩] at h
    simp only [Option.bind_some] at h
    rw [if_pos (by simp; omega)] at h
    exact ⟨good_l0 d a hd ha0 ha1 l (by omega) o l.length 0 k _ (by omega) (by simp; omega) (by simp) (by simp) h, by omega⟩
open Go.Proofs.YthkoignldhocgacW.Help
theorem fi_found {α : Type} (p : α → Bool) (l : List α) (h : ∃ x ∈ l, p x = true) : ∃ j, ∃ hj : j < l.length, fi p l = (j : Int) ∧ p l[j] = true := by
  refine ⟨l.findIdx p, List.findIdx_lt_length_of_exists h, ?_, List.findIdx_getElem⟩
  unfold fi
  rw [if_pos (List.any_eq_true.2 h)]
theorem from_l1 (l : List S42) (hn : l.length ≤ 40) (p : Int) (st : Int) (r : Int × Bool) (B : Nat) (v : Int) (H : ∀ k, B ≤ k → (if v < 0 then some ((0 : Int), false) else spec_StepsTo.l0 k l v (wrap64 (st + 1))) = some r) : ∀ (dd i k : Nat) (x : Int), i + dd = l.length → B + dd < k → (((∀ c ∈ l.drop i, c.f1 ≠ p) ∧ x = v) ∨ ∃ c ∈ l.drop i, c.f1 = p ∧ c.f0 = v ∧ ∀ e ∈ l.drop i, e.f1 = p → e.f0 = v) → spec_StepsTo.l1 k l p st x l (l.length : Int) (i : Int) = some r
  | 0, i, k, x, hi, hk, hx => by
    obtain ⟨k, rfl⟩ : ∃ q, k = q + 1 := ⟨k - 1, by omega⟩
    rw [List.drop_eq_nil_of_le (by omega)] at hx
    rcases hx with ⟨_, rfl⟩ | ⟨c, hc, _⟩
    · simp only [spec_StepsTo.l1]
      rw [if_neg (by omega)]
      exact H k (by omega)
    · simp at hc
  | dd + 1, i, k, x, hi, hk, hx => by
    obtain ⟨k, rfl⟩ : ∃ q, k = q + 1 := ⟨k - 1, by omega⟩
    have ha : i < l.length := by omega
    simp only [spec_StepsTo.l1]
    rw [if_pos (by omega), if_pos (by omega), if_pos (by omega), rdSend1 ha, up64 ha (by omega)]
    rw [List.drop_eq_getElem_cons ha] at hx
    by_cases e : l[i].f1 = p
    · rw [if_pos e]
      have hv : l[i].f0 = v := by
        rcases hx with ⟨h, _⟩ | ⟨c, _, _, _, h⟩
        · exact absurd e (h _ (List.mem_cons_self ..))
        · exact h _ (List.mem_cons_self ..) e
      refine from_l1 l hn p st r B v H dd (i + 1) k _ (by omega) (by omega) ?_
      rw [hv]
      by_cases hq : ∃ c ∈ l.drop (i + 1), c.f1 = p
      · obtain ⟨c, hc, hcp⟩ := hq
        rcases hx with ⟨h, _⟩ | ⟨_, _, _, _, h⟩
        · exact absurd e (h _ (List.mem_cons_self ..))
        · exact .inr ⟨c, hc, hcp, h c (List.mem_cons_of_mem _ hc) hcp, fun e he => h e (List.mem_cons_of_mem _ he)⟩
      · exact .inl ⟨fun c hc hcp => hq ⟨c, hc, hcp⟩, rfl⟩
    · rw [if_neg e]
      refine from_l1 l hn p st r B v H dd (i + 1) k _ (by omega) (by omega) ?_
      rcases hx with ⟨h, hx⟩ | ⟨c, hc, h1, h2, h3⟩
      · exact .inl ⟨fun c hc => h c (List.mem_cons_of_mem _ hc), hx⟩
      · rw [List.mem_cons] at hc
        rcases hc with rfl | hc
        · exact absurd h1 e
        · exact .inr ⟨c, hc, h1, h2, fun e he => h3 e (List.mem_cons_of_mem _ he)⟩
theorem steps_both (d a : Int) (hd : 1 ≤ d ∧ d ≤ 10) (l : List S42) (hn : l.length ≤ 40) (o : List Int) (g : Good d a l o) : ∀ (m : Nat) (p st : Int), rd o p < (m : Int) → ∃ r : Int × Bool, (∀ k, 50 * (m + 1) < k → spec_StepsTo.l0 k l p st = some r) ∧ (∀ k, 50 * (m + 1) < k → impl_StepsTo.l0 k l st p = some r) := by
  intro m
  induction m with
  | zero =>
    intro p st hp
    by_cases h0 : p = 0
    · refine ⟨(st, true), fun k hk => ?_, fun k hk => ?_⟩
      · obtain ⟨k, rfl⟩ : ∃ q, k = q + 1 := ⟨k - 1, by omega⟩
        simp only [spec_StepsTo.l0]; rw [if_pos h0]
      · obtain ⟨k, rfl⟩ : ∃ q, k = q + 1 := ⟨k - 1, by omega⟩
        simp only [impl_StepsTo.l0]; rw [if_pos h0]
    · have hno : ∀ c ∈ l, c.f1 ≠ p := fun c hc e => by
        have := g.in_ c hc
        rw [e] at this
        omega
      refine ⟨(0, false), fun k hk => ?_, fun k hk => ?_⟩
      · obtain ⟨k, rfl⟩ : ∃ q, k = q + 1 := ⟨k - 1, by omega⟩
        simp only [spec_StepsTo.l0]; rw [if_neg h0]
        exact from_l1 l hn p st (0, false) 0 (-1) (fun k _ => rfl) l.length 0 k (-1) (by omega) (by omega) (.inl ⟨hno, rfl⟩)
      · obtain ⟨k, rfl⟩ : ∃ q, k = q + 1 := ⟨k - 1, by omega⟩
        simp only [impl_StepsTo.l0]; rw [if_neg h0]
        have e : fi (impl_StepsTo_1.p p) l = -1 := fi_miss z42 (fun j hj => by
          have hm : l.getD j z42 ∈ l := by rw [List.getD_eq_getElem?_getD, List.getElem?_eq_getElem hj]; exact List.getElem_mem hj
          exact decide_eq_false (hno _ hm))
        simp [impl_StepsTo_1.f, e]
  | succ m ih =>
    intro p st hp
    by_cases h0 : p = 0
    · refine ⟨(st, true), fun k hk => ?_, fun k hk => ?_⟩
      · obtain ⟨k, rfl⟩ : ∃ q, k = q + 1 := ⟨k - 1, by omega⟩
        simp only [spec_StepsTo.l0]; rw [if_pos h0]
      · obtain ⟨k, rfl⟩ : ∃ q, k = q + 1 := ⟨k - 1, by omega⟩
        simp only [impl_StepsTo.l0]; rw [if_pos h0]
    · by_cases hq : ∃ c ∈ l, c.f1 = p
      · obtain ⟨c, hc, hcp⟩ := hq
        obtain ⟨c1, c2, c3, c4, c5, c6⟩ := g.in_ c hc
        rw [hcp] at c3
        obtain ⟨r, hs, hi⟩ := ih c.f0 (wrap64 (st + 1)) (by omega)
        have huniq : ∀ e ∈ l, e.f1 = p → e = c := fun e he hep => by
          by_cases hne : e = c
          · exact hne
          · skip
            obtain ⟨i, hi1, rfl⟩ := List.mem_iff_getElem.1 he
            obtain ⟨j, hj1, rfl⟩ := List.mem_iff_getElem.1 hc
            have hp := List.pairwise_iff_getElem.1 g.apart
            rcases Nat.lt_trichotomy i j with h | h | h
            · exact absurd (hep.trans hcp.symm) (hp i j hi1 hj1 h)
            · subst h; exact absurd rfl hne
            · exact absurd (hcp.trans hep.symm) (hp j i hj1 hi1 h)
        refine ⟨r, fun k hk => ?_, fun k hk => ?_⟩
        · obtain ⟨k, rfl⟩ : ∃ q, k = q + 1 := ⟨k - 1, by omega⟩
          simp only [spec_StepsTo.l0]; rw [if_neg h0]
          refine from_l1 l hn p st r (50 * (m + 1) + 1) c.f0 (fun k hk => ?_) l.length 0 k (-1) (by omega) (by omega) (.inr ⟨c, hc, hcp, rfl, fun e he hep => by rw [huniq e he hep]⟩)
          rw [if_neg (by omega)]
          exact hs k (by omega)
        · obtain ⟨k, rfl⟩ : ∃ q, k = q + 1 := ⟨k - 1, by omega⟩
          simp only [impl_StepsTo.l0]; rw [if_neg h0]
          obtain ⟨j, hj, e, hel⟩ := fi_found (impl_StepsTo_1.p p) l ⟨c, hc, decide_eq_true hcp⟩
          simp only [impl_StepsTo_1.f, Option.bind_some, e]
          rw [if_neg (by omega), if_pos (by omega), if_pos (by omega), rdSend1 hj]
          have := huniq l[j] (List.getElem_mem hj) (of_decide_eq_true hel)
          rw [this]
          exact hi k (by omega)
      · have hno : ∀ c ∈ l, c.f1 ≠ p := fun c hc e => hq ⟨c, hc, e⟩
        refine ⟨(0, false), fun k hk => ?_, fun k hk => ?_⟩
        · obtain ⟨k, rfl⟩ : ∃ q, k = q + 1 := ⟨k - 1, by omega⟩
          simp only [spec_StepsTo.l0]; rw [if_neg h0]
          exact from_l1 l hn p st (0, false) 0 (-1) (fun k _ => rfl) l.length 0 k (-1) (by omega) (by omega) (.inl ⟨hno, rfl⟩)
        · obtain ⟨k, rfl⟩ : ∃ q, k = q + 1 := ⟨k - 1, by omega⟩
          simp only [impl_StepsTo.l0]; rw [if_neg h0]
          have e : fi (impl_StepsTo_1.p p) l = -1 := fi_miss z42 (fun j hj => by
            have hm : l.getD j z42 ∈ l := by rw [List.getD_eq_getElem?_getD, List.getElem?_eq_getElem hj]; exact List.getElem_mem hj
            exact decide_eq_false (hno _ hm))
          simp [impl_StepsTo_1.f, e]
theorem StepsTo_both (d a : Int) (l : List S42) (hl : l.length ≤ 1048576) (p : Int) : ∃ r : Int × Bool, (∀ k, 8000 ≤ k → spec_StepsTo.f k d a l p = some r) ∧ (∀ k, 8000 ≤ k → impl_StepsTo.f k d a l p = some r) := by
  by_cases h : (1 ≤ d ∧ d ≤ 10) ∧ (1 ≤ a ∧ a ≤ 40)
  · obtain ⟨⟨o, b⟩, h1, h0, hs, hi⟩ := arr_both d a h.2.1 h.2.2 l hl
    have wa : wrap64 (a - 1) = a - 1 := w64 (by omega) (by omega)
    by_cases hp : 0 ≤ p ∧ p ≤ a - 1
    · cases b with
      | false =>
        refine ⟨(0, false), fun k hk => ?_, fun k hk => ?_⟩
        · unfold spec_StepsTo.f spec_dePerson.f
          simp [askS, inS, wa, h, hp, hs k (by omega)]
        · obtain ⟨k, rfl⟩ : ∃ q, k = q + 1 := ⟨k - 1, by omega⟩
          unfold impl_StepsTo.f impl_areSent.f impl_AreSends.f
          simp [askI, inI, wa, h, hp, hi (k + 1) (by omega), impl_StepsTo.j0]
      | true =>
        obtain ⟨g, hn⟩ := arr_good d a h.1 h.2.1 h.2.2 l o 5000 (hi 5000 (by omega))
        have hlt : rd o p < ((72 : Nat) : Int) ∨ 72 ≤ rd o p := by omega
        obtain ⟨r, rs, ri⟩ : ∃ r : Int × Bool, (∀ k, 4000 < k → spec_StepsTo.l0 k l p 0 = some r) ∧ (∀ k, 4000 < k → impl_StepsTo.l0 k l 0 p = some r) := by
          rcases hlt with hlt | hge
          · obtain ⟨r, rs, ri⟩ := steps_both d a h.1 l hn o g 72 p 0 hlt
            exact ⟨r, fun k hk => rs k (by omega), fun k hk => ri k (by omega)⟩
          · have hno : ∀ c ∈ l, c.f1 ≠ p := fun c hc e => by
              have := g.in_ c hc
              rw [e] at this
              omega
            by_cases h0 : p = 0
            · refine ⟨(0, true), fun k hk => ?_, fun k hk => ?_⟩
              · obtain ⟨k, rfl⟩ : ∃ q, k = q + 1 := ⟨k - 1, by omega⟩
                simp only [spec_StepsTo.l0]; rw [if_pos h0]
              · obtain ⟨k, rfl⟩ : ∃ q, k = q + 1 := ⟨k - 1, by omega⟩
                simp only [impl_StepsTo.l0]; rw [if_pos h0]
            · refine ⟨(0, false), fun k hk => ?_, fun k hk => ?_⟩
              · obtain ⟨k, rfl⟩ : ∃ q, k = q + 1 := ⟨k - 1, by omega⟩
                simp only [spec_StepsTo.l0]; rw [if_neg h0]
                exact from_l1 l hn p 0 (0, false) 0 (-1) (fun k _ => rfl) l.length 0 k (-1) (by omega) (by omega) (.inl ⟨hno, rfl⟩)
              · obtain ⟨k, rfl⟩ : ∃ q, k = q + 1 := ⟨k - 1, by omega⟩
                simp only [impl_StepsTo.l0]; rw [if_neg h0]
                have e : fi (impl_StepsTo_1.p p) l = -1 := fi_miss z42 (fun j hj => by
                  have hm : l.getD j z42 ∈ l := by rw [List.getD_eq_getElem?_getD, List.getElem?_eq_getElem hj]; exact List.getElem_mem hj
                  exact decide_eq_false (hno _ hm))
                simp [impl_StepsTo_1.f, e]
        refine ⟨r, fun k hk => ?_, fun k hk => ?_⟩
        · unfold spec_StepsTo.f spec_dePerson.f
          simp [askS, inS, wa, h, hp, hs k (by omega), rs k (by omega)]
        · obtain ⟨k, rfl⟩ : ∃ q, k = q + 1 := ⟨k - 1, by omega⟩
          unfold impl_StepsTo.f impl_areSent.f impl_AreSends.f
          simp [askI, inI, wa, h, hp, hi (k + 1) (by omega), impl_StepsTo.j0, ri k (by omega)]
    · refine ⟨(0, false), fun k hk => ?_, fun k hk => ?_⟩
      · unfold spec_StepsTo.f spec_dePerson.f
        simp [askS, inS, wa, h, hp]
      · obtain ⟨k, rfl⟩ : ∃ q, k = q + 1 := ⟨k - 1, by omega⟩
        unfold impl_StepsTo.f impl_areSent.f impl_AreSends.f
        cases b <;> simp [askI, inI, wa, h, hp, hi (k + 1) (by omega), impl_StepsTo.j0]
  · have e : (decide (1 ≤ d ∧ d ≤ 10) && decide (1 ≤ a ∧ a ≤ 40)) = false := by rw [← Bool.decide_and]; exact decide_eq_false h
    refine ⟨(0, false), fun k hk => ?_, fun k hk => ?_⟩
    · unfold spec_StepsTo.f spec_dePerson.f
      rw [askS, e]; rfl
    · obtain ⟨k, rfl⟩ : ∃ q, k = q + 1 := ⟨k - 1, by omega⟩
      unfold impl_StepsTo.f impl_areSent.f impl_AreSends.f
      rw [askI, e]; simp [impl_StepsTo.j0]
theorem FnExactStepsTo : ∀ (a0 : Int) (a1 : Int) (l2 : List (S44)) (a3 : Int), (Lit.int .i64 a0).wf = true → (Lit.int .i64 a1).wf = true → l2.length ≤ maxLen → (∀ x ∈ l2, (fun x => (Lit.int .i64 x.f0).wf = true ∧ (Lit.int .i64 x.f1).wf = true ∧ (fun n => (Lit.int .i64 n).wf = true) x.f2) x) → (Lit.int .i64 a3).wf = true → ∃ k, laws_FnExactStepsTo.f k a0 a1 l2 a3 = some true := by
  intro d a l p _ _ hm _ _
  refine ⟨2000000, ?_⟩
  unfold laws_FnExactStepsTo.f
  rw [szSendS_f l (by unfold maxLen at hm; omega)]
  simp only [Option.bind_some]
  by_cases h : l.length ≤ 1048576
  · obtain ⟨r, hs, hi⟩ := StepsTo_both d a (l.map cvSend) (by simpa using h) p
    have t1 : ∀ k, 1100000 ≤ k → laws_toSendS.f k l = some (l.map cvSend) := fun k hk => toSendS_f l h (by omega)
    have q1 : ∀ k, 1100000 ≤ k → laws_eqSendS.f k (l.map cvSend) (l.map cvSend) = some true := fun k hk => eqSendS_f _ (by simp; omega) (by simp; omega)
    rw [if_pos h, if_neg (by omega)]
    simp (disch := omega) only [t1, hs, hi, q1, Option.bind_some, if_true, bne_self_eq_false, Bool.false_eq_true, if_false]
    rw [laws_FnExactStepsTo.j0.eq_def]
    simp (disch := omega) only [t1, q1, Option.bind_some, if_true, Bool.false_eq_true, if_false]
  · rw [if_neg h]
    simp

end Go.Proofs.Ythkoignldhocgac.Pure
