/- For every delay, number of people and list of sends the program's IdleMinutes and the reference's agree; no conditions. -/
import Derived.Test.YthkoignldhocgacPFnExactIdleMinutesx6
set_option linter.unusedSimpArgs false
set_option linter.unusedVariables false
namespace Go.Proofs.Ythkoignldhocgac.Pure
open Go.RowKit Go.Proofs.Ythkoignldhocgac.PFnExactIdleMinutes Go.Proofs.YthkoignldhocgacW.PrintWords Go.Proofs.YthkoignldhocgacW.PrintLast Go.Proofs.YthkoignldhocgacW.PrintMore

theorem w64 {x : Int} (h0 : -9223372036854775808 ≤ x) (h1 : x ≤ 9223372036854775807) : wrap64 x = x := by unfold wrap64; omega
theorem up64 {i n : Nat} (h : i < n) (hn : n ≤ 4611686018427387904) : wrap64 ((i : Int) + 1) = ((i + 1 : Nat) : Int) := by rw [w64 (by omega) (by omega)]; omega
theorem rd_lt {xs : List Int} {i : Nat} (h : i < xs.length) : rd xs (i : Int) = xs[i] := by unfold rd; simp [List.getD_eq_getElem?_getD, h]
/-- An element of the law's own type, as the program's. -/
def cvSend (x : S44) : S42 := ⟨x.f0, x.f1, x.f2⟩
theorem rdSend0 {xs : List S44} {i : Nat} (h : i < xs.length) : rd_T44 xs (i : Int) = xs[i] := by unfold rd_T44; simp [List.getD_eq_getElem?_getD, h]
theorem rdSend1 {xs : List S42} {i : Nat} (h : i < xs.length) : rd_T42 xs (i : Int) = xs[i] := by unfold rd_T42; simp [List.getD_eq_getElem?_getD, h]
theorem toSendS_l0 (a : List S44) (hn : a.length ≤ 4611686018427387904) : ∀ (d i k : Nat), i + d = a.length → d < k → laws_toSendS.l0 k a ((a.take i).map cvSend ++ List.replicate d z42) (i : Int) = some (a.map cvSend)
  | 0, i, k, hi, hk => by
    obtain ⟨k, rfl⟩ : ∃ q, k = q + 1 := ⟨k - 1, by omega⟩
    simp only [laws_toSendS.l0]
    rw [if_neg (by omega), List.take_of_length_le (by omega)]
    simp
  | d + 1, i, k, hi, hk => by
    obtain ⟨k, rfl⟩ : ∃ q, k = q + 1 := ⟨k - 1, by omega⟩
    have ih := toSendS_l0 a hn d (i + 1) k (by omega) (by omega)
    have ha : i < a.length := by omega
    simp only [laws_toSendS.l0, laws_toSend.f, Option.bind_some]
    rw [if_pos (by omega), if_pos (by omega), if_pos (by simp; omega), up64 ha hn, rdSend0 ha]
    have he : ((a.take i).map cvSend ++ List.replicate (d + 1) z42).set ((i : Nat) : Int).toNat (cvSend a[i]) = (a.take (i + 1)).map cvSend ++ List.replicate d z42 := by
      rw [List.set_append_right _ _ (by simp; omega), List.replicate_succ]
      have e : ((i : Nat) : Int).toNat - ((a.take i).map cvSend).length = 0 := by simp; omega
      rw [e, List.set_cons_zero, List.take_succ_eq_append_getElem ha]
      simp only [List.append_assoc, List.singleton_append, List.map_append, List.map_cons, List.map_nil]
    exact (congrArg (fun z => laws_toSendS.l0 k a z ((i + 1 : Nat) : Int)) he).trans ih
theorem toSendS_f (a : List S44) (hn : a.length ≤ 1048576) {k : Nat} (hk : a.length < k) : laws_toSendS.f k a = some (a.map cvSend) := by
  unfold laws_toSendS.f
  rw [if_pos (by omega), if_pos (by omega)]
  exact toSendS_l0 a (by omega) a.length 0 k (by omega) hk
theorem eqSendS_l0 (a : List S42) (hn : a.length ≤ 4611686018427387904) : ∀ (d i k : Nat), i + d = a.length → d < k → laws_eqSendS.l0 k a a (i : Int) = some true
  | 0, i, k, hi, hk => by
    obtain ⟨k, rfl⟩ : ∃ q, k = q + 1 := ⟨k - 1, by omega⟩
    simp only [laws_eqSendS.l0]
    rw [if_neg (by omega)]
  | d + 1, i, k, hi, hk => by
    obtain ⟨k, rfl⟩ : ∃ q, k = q + 1 := ⟨k - 1, by omega⟩
    have ih := eqSendS_l0 a hn d (i + 1) k (by omega) (by omega)
    have ha : i < a.length := by omega
    simp only [laws_eqSendS.l0, laws_eqSend.f]
    rw [if_pos (by omega), if_pos (by omega), if_pos (by omega), up64 ha hn]
    simpa using ih
theorem eqSendS_f (a : List S42) (hn : a.length ≤ 4611686018427387904) {k : Nat} (hk : a.length < k) : laws_eqSendS.f k a a = some true := by
  unfold laws_eqSendS.f
  rw [if_pos rfl]
  exact eqSendS_l0 a hn a.length 0 k (by omega) hk
theorem szSendS_f (a : List S44) (hn : a.length ≤ 9223372036854775807) : laws_szSendS.f a 1048576 = some (if a.length ≤ 1048576 then 1048576 - (a.length : Int) else -1) := by
  unfold laws_szSendS.f
  rw [w64 (by omega) (by omega)]
  by_cases h : a.length ≤ 1048576
  · rw [if_neg (by omega), if_pos h]
  · rw [if_pos (by omega), if_neg h]
/-- The place of the first x in a list, or -1. -/
def ix (l : List Int) (x : Int) : Int := if x ∈ l then (l.idxOf x : Int) else -1
theorem index_l0 (a : List Int) (x : Int) (hn : a.length ≤ 4611686018427387904) : ∀ (d i k : Nat), i + d = a.length → d < k → x ∉ a.take i → slices_Index_int_int.l0 k a x (a.length : Int) (i : Int) = some (ix a x)
  | 0, i, k, hi, hk, hx => by
    obtain ⟨k, rfl⟩ : ∃ q, k = q + 1 := ⟨k - 1, by omega⟩
    simp only [slices_Index_int_int.l0]
    rw [List.take_of_length_le (by omega)] at hx
    rw [if_neg (by omega)]
    unfold ix
    rw [if_neg hx]
  | d + 1, i, k, hi, hk, hx => by
    obtain ⟨k, rfl⟩ : ∃ q, k = q + 1 := ⟨k - 1, by omega⟩
    have ha : i < a.length := by omega
    simp only [slices_Index_int_int.l0]
    rw [if_pos (by omega), if_pos (by omega), if_pos (by omega), up64 ha hn, rd_lt ha]
    by_cases e : x = a[i]
    · rw [if_pos e]
      unfold ix
      have hm : x ∈ a := by rw [e]; exact List.getElem_mem ha
      rw [if_pos hm]
      have h2 : a.idxOf x = i := by
        have h3 : a = a.take i ++ a[i] :: a.drop (i + 1) := by rw [← List.drop_eq_getElem_cons ha, List.take_append_drop]
        rw [h3, List.idxOf_append, if_neg hx, ← e, List.idxOf_cons_self]
        simp; omega
      rw [h2]
    · rw [if_neg e]
      refine index_l0 a x hn d (i + 1) k (by omega) (by omega) ?_
      rw [List.take_succ_eq_append_getElem ha, List.mem_append, List.mem_singleton]
      exact fun h => h.elim hx e
theorem index_f (a : List Int) (x : Int) (hn : a.length ≤ 4611686018427387904) {k : Nat} (hk : a.length < k) : slices_Index_int_int.f k a x = some (ix a x) :=
  index_l0 a x hn a.length 0 k (by omega) hk (by simp)
theorem ix_mem (l : List Int) (x : Int) : ix l x ≥ 0 ↔ x ∈ l := by
  unfold ix
  split <;> simp_all
theorem contains_f (a : List Int) (x : Int) (hn : a.length ≤ 4611686018427387904) {k : Nat} (hk : a.length < k) : slices_Contains_int_int.f k a x = some (decide (x ∈ a)) := by
  unfold slices_Contains_int_int.f
  rw [index_f a x hn hk]
  simp [ix_mem]
theorem inS (x lo hi : Int) : spec_l1In.f x lo hi = some (decide (lo ≤ x ∧ x ≤ hi)) := by
  unfold spec_l1In.f
  by_cases h : lo ≤ x
  · rw [if_pos h]; simp [h]
  · rw [if_neg h]; simp [h]
theorem inI (x lo hi : Int) : impl_within.f x lo hi = some (decide (lo ≤ x ∧ x ≤ hi)) := by
  unfold impl_within.f
  by_cases h : lo ≤ x
  · rw [if_pos h]; simp [h]
  · rw [if_neg h]; simp [h]
/-- The second walk: has each one who sends come to know it? -/
theorem arr_l3 (l : List S42) (hn : l.length ≤ 1000) (x8 : List Int) (hf : ∀ c ∈ l, 0 ≤ c.f0 ∧ c.f0 < (x8.length : Int)) : ∀ (dd i : Nat), i + dd = l.length → ∃ r : List Int × Bool, (r.2 = true → r.1 = x8) ∧ (r.2 = false → r.1 = []) ∧ (∀ k, dd < k → spec_deArrivals.l3 k x8 l (l.length : Int) (i : Int) = some r) ∧ (∀ k, dd < k → impl_arrivals.l1 k x8 l (l.length : Int) (i : Int) = some r)
  | 0, i, hi => by
    refine ⟨(x8, true), fun _ => rfl, fun h => (by cases h), fun k hk => ?_, fun k hk => ?_⟩
    · obtain ⟨k, rfl⟩ : ∃ q, k = q + 1 := ⟨k - 1, by omega⟩
      simp only [spec_deArrivals.l3]
      rw [if_neg (by omega)]
    · obtain ⟨k, rfl⟩ : ∃ q, k = q + 1 := ⟨k - 1, by omega⟩
      simp only [impl_arrivals.l1]
      rw [if_neg (by omega)]
  | dd + 1, i, hi => by
    obtain ⟨r, h1, h0, hs, hm⟩ := arr_l3 l hn x8 hf dd (i + 1) (by omega)
    have ha : i < l.length := by omega
    obtain ⟨f0, f1⟩ := hf l[i] (List.getElem_mem ha)
    by_cases e1 : rd x8 l[i].f0 < 0
    · refine ⟨([], false), fun h => (by cases h), fun _ => rfl, fun k hk => ?_, fun k hk => ?_⟩
      · obtain ⟨k, rfl⟩ : ∃ q, k = q + 1 := ⟨k - 1, by omega⟩
        simp only [spec_deArrivals.l3]
        rw [if_pos (by omega), if_pos (by omega), if_pos (by omega), rdSend1 ha, if_pos f0, if_pos f1, if_pos e1]
      · obtain ⟨k, rfl⟩ : ∃ q, k = q + 1 := ⟨k - 1, by omega⟩
        simp only [impl_arrivals.l1]
        rw [if_pos (by omega), if_pos (by omega), if_pos (by omega), rdSend1 ha, if_pos f0, if_pos f1, if_pos e1]
    · by_cases e2 : rd x8 l[i].f0 > l[i].f2
      · refine ⟨([], false), fun h => (by cases h), fun _ => rfl, fun k hk => ?_, fun k hk => ?_⟩
        · obtain ⟨k, rfl⟩ : ∃ q, k = q + 1 := ⟨k - 1, by omega⟩
          simp only [spec_deArrivals.l3]
          rw [if_pos (by omega), if_pos (by omega), if_pos (by omega), rdSend1 ha, if_pos f0, if_pos f1, if_neg e1, if_pos e2]
        · obtain ⟨k, rfl⟩ : ∃ q, k = q + 1 := ⟨k - 1, by omega⟩
          simp only [impl_arrivals.l1]
          rw [if_pos (by omega), if_pos (by omega), if_pos (by omega), rdSend1 ha, if_pos f0, if_pos f1, if_neg e1, if_pos e2]
      · refine ⟨r, h1, h0, fun k hk => ?_, fun k hk => ?_⟩
        · obtain ⟨k, rfl⟩ : ∃ q, k = q + 1 := ⟨k - 1, by omega⟩
          simp only [spec_deArrivals.l3]
          rw [if_pos (by omega), if_pos (by omega), if_pos (by omega), rdSend1 ha, if_pos f0, if_pos f1, if_neg e1, if_neg e2, up64 ha (by omega)]
          exact hs k (by omega)
        · obtain ⟨k, rfl⟩ : ∃ q, k = q + 1 := ⟨k - 1, by omega⟩
          simp only [impl_arrivals.l1]
          rw [if_pos (by omega), if_pos (by omega), if_pos (by omega), rdSend1 ha, if_pos f0, if_pos f1, if_neg e1, if_neg e2, up64 ha (by omega)]
          exact hm k (by omega)
theorem arr_l2 (d a : Int) (l : List S42) (x8 : List Int) (n i : Int) (t : List S42) (hn : t.length ≤ 1000) (c0 c1 c2 : Int) (r : List Int × Bool) (B : Nat) (H : ∀ k, B ≤ k → spec_deArrivals.l1 k d a l x8 l n (wrap64 (i + 1)) = some r) : ∀ (dd j k : Nat), j + dd = t.length → B + dd < k → spec_deArrivals.l2 k d a l x8 l n i t (t.length : Int) (j : Int) c0 c1 c2 = some (if (t.drop j).any (impl_arrivals_1.p c0 c2) then ([], false) else r)
  | 0, j, k, hj, hk => by
    obtain ⟨k, rfl⟩ : ∃ q, k = q + 1 := ⟨k - 1, by omega⟩
    simp only [spec_deArrivals.l2]
    rw [if_neg (by omega), List.drop_eq_nil_of_le (by omega)]
    exact H k (by omega)
  | dd + 1, j, k, hj, hk => by
    obtain ⟨k, rfl⟩ : ∃ q, k = q + 1 := ⟨k - 1, by omega⟩
    have ih := arr_l2 d a l x8 n i t hn c0 c1 c2 r B H dd (j + 1) k (by omega) (by omega)
    have ha : j < t.length := by omega
    simp only [spec_deArrivals.l2]
    rw [if_pos (by omega), if_pos (by omega), if_pos (by omega), rdSend1 ha, up64 ha (by omega), ih, List.drop_eq_getElem_cons ha, List.any_cons]
    unfold impl_arrivals_1.p
    by_cases h0 : t[j].f0 = c0
    · by_cases h2 : t[j].f2 = c2
      · simp [h0, h2]
      · rw [if_pos h0, if_neg h2]
        simp [h0, h2]
    · rw [if_neg h0]
      simp [h0]
theorem rd_set_ne {xs : List Int} {i j : Nat} {v : Int} (h : i ≠ j) : rd (xs.set i v) (j : Int) = rd xs (j : Int) := by
  unfold rd
  simp [List.getD_eq_getElem?_getD, List.getElem?_set, h]
theorem arr_l1 (d a : Int) (ha0 : 1 ≤ a) (ha1 : a ≤ 40) (l : List S42) (hn : l.length ≤ 40) : ∀ (dd i : Nat) (x8 : List Int), i + dd = l.length → (x8.length : Int) = a → rd x8 0 = 0 → (∀ c ∈ l.take i, 0 ≤ c.f0 ∧ c.f0 < a) → ∃ r : List Int × Bool, (r.2 = true → (r.1.length : Int) = a ∧ rd r.1 0 = 0) ∧ (r.2 = false → r.1 = []) ∧ (∀ k, 100 + 60 * dd ≤ k → spec_deArrivals.l1 k d a l x8 l (l.length : Int) (i : Int) = some r) ∧ (∀ k, 100 + 60 * dd ≤ k → impl_arrivals.l0 k d a l x8 l (l.length : Int) (i : Int) = some r)
  | 0, i, x8, hi, hx, h0, hc => by
    rw [List.take_of_length_le (by omega)] at hc
    obtain ⟨r, h1, h2, hs, hm⟩ := arr_l3 l (by omega) x8 (by rw [hx]; exact hc) l.length 0 (by omega)
    refine ⟨r, fun h => by rw [h1 h]; exact ⟨hx, h0⟩, h2, fun k hk => ?_, fun k hk => ?_⟩
    · obtain ⟨k, rfl⟩ : ∃ q, k = q + 1 := ⟨k - 1, by omega⟩
      simp only [spec_deArrivals.l1]
      rw [if_neg (by omega)]
      exact hs k (by omega)
    · obtain ⟨k, rfl⟩ : ∃ q, k = q + 1 := ⟨k - 1, by omega⟩
      simp only [impl_arrivals.l0]
      rw [if_neg (by omega)]
      exact hm k (by omega)
  | dd + 1, i, x8, hi, hx, h0, hc => by
    have ha : i < l.length := by omega
    have wa : wrap64 (a - 1) = a - 1 := w64 (by omega) (by omega)
    have no : ∀ k, 2 ≤ k → spec_deArrivals.j2 k d a l x8 (i : Int) l (l.length : Int) (i : Int) true l[i].f0 l[i].f1 l[i].f2 = some ([], false) := fun k hk => by
      obtain ⟨k, rfl⟩ : ∃ q, k = q + 1 := ⟨k - 1, by omega⟩
      simp only [spec_deArrivals.j2, if_true]
    have no' : ∀ k, 2 ≤ k → impl_arrivals.j1 k d a l x8 (i : Int) l (l.length : Int) (i : Int) true l[i].f0 l[i].f1 l[i].f2 = some ([], false) := fun k hk => by
      obtain ⟨k, rfl⟩ : ∃ q, k = q + 1 := ⟨k - 1, by omega⟩
      simp only [impl_arrivals.j1, if_true]
    have fall : (∀ k, 100 ≤ k → spec_deArrivals.l1 (k + 1) d a l x8 l (l.length : Int) (i : Int) = some ([], false)) → (∀ k, 100 ≤ k → impl_arrivals.l0 (k + 1) d a l x8 l (l.length : Int) (i : Int) = some ([], false)) → ∃ r : List Int × Bool, (r.2 = true → (r.1.length : Int) = a ∧ rd r.1 0 = 0) ∧ (r.2 = false → r.1 = []) ∧ (∀ k, 100 + 60 * (dd + 1) ≤ k → spec_deArrivals.l1 k d a l x8 l (l.length : Int) (i : Int) = some r) ∧ (∀ k, 100 + 60 * (dd + 1) ≤ k → impl_arrivals.l0 k d a l x8 l (l.length : Int) (i : Int) = some r) := fun hs hm => by
      refine ⟨([], false), fun h => (by cases h), fun _ => rfl, fun k hk => ?_, fun k hk => ?_⟩
      · obtain ⟨k, rfl⟩ : ∃ q, k = q + 1 := ⟨k - 1, by omega⟩
        exact hs k (by omega)
      · obtain ⟨k, rfl⟩ : ∃ q, k = q + 1 := ⟨k - 1, by omega⟩
        exact hm k (by omega)
    by_cases p1 : 0 ≤ l[i].f0 ∧ l[i].f0 ≤ a - 1
    case neg =>
      refine fall (fun k hk => ?_) (fun k hk => ?_)
      · simp only [spec_deArrivals.l1]
        rw [if_pos (by omega), if_pos (by omega), if_pos (by omega), rdSend1 ha, wa, inS]
        simp only [p1, decide_false, Option.bind_some, Bool.false_eq_true, if_false]
        exact no k (by omega)
      · simp only [impl_arrivals.l0]
        rw [if_pos (by omega), if_pos (by omega), if_pos (by omega), rdSend1 ha, wa, inI]
        simp only [p1, decide_false, Option.bind_some, Bool.false_eq_true, if_false]
        exact no' k (by omega)
    by_cases p2 : 1 ≤ l[i].f1 ∧ l[i].f1 ≤ a - 1
    case neg =>
      refine fall (fun k hk => ?_) (fun k hk => ?_)
      · simp only [spec_deArrivals.l1]
        rw [if_pos (by omega), if_pos (by omega), if_pos (by omega), rdSend1 ha, wa, inS, inS]
        simp only [p1, p2, decide_false, decide_true, and_self, Option.bind_some, Bool.false_eq_true, if_false, if_true]
        exact no k (by omega)
      · simp only [impl_arrivals.l0]
        rw [if_pos (by omega), if_pos (by omega), if_pos (by omega), rdSend1 ha, wa, inI, inI]
        simp only [p1, p2, decide_false, decide_true, and_self, Option.bind_some, Bool.false_eq_true, if_false, if_true]
        exact no' k (by omega)
    by_cases p3 : l[i].f0 = l[i].f1
    case pos =>
      refine fall (fun k hk => ?_) (fun k hk => ?_)
      · simp only [spec_deArrivals.l1]
        rw [if_pos (by omega), if_pos (by omega), if_pos (by omega), rdSend1 ha, wa, inS, inS]
        simp only [p1, p2, decide_true, and_self, Option.bind_some, if_true]
        rw [if_pos p3]
        exact no k (by omega)
      · simp only [impl_arrivals.l0]
        rw [if_pos (by omega), if_pos (by omega), if_pos (by omega), rdSend1 ha, wa, inI, inI]
        simp only [p1, p2, decide_true, and_self, Option.bind_some, if_true]
        rw [if_pos p3]
        exact no' k (by omega)
    by_cases p4 : 0 ≤ l[i].f2 ∧ l[i].f2 ≤ 60
    case neg =>
      refine fall (fun k hk => ?_) (fun k hk => ?_)
      · simp only [spec_deArrivals.l1]
        rw [if_pos (by omega), if_pos (by omega), if_pos (by omega), rdSend1 ha, wa, inS, inS, inS]
        simp only [p1, p2, p4, decide_true, decide_false, and_self, Option.bind_some, if_true, Bool.false_eq_true, if_false]
        rw [if_neg p3]
        exact no k (by omega)
      · simp only [impl_arrivals.l0, impl_isMinute.f]
        rw [if_pos (by omega), if_pos (by omega), if_pos (by omega), rdSend1 ha, wa, inI, inI, inI]
        simp only [p1, p2, p4, decide_true, decide_false, and_self, Option.bind_some, if_true, Bool.false_eq_true, if_false]
        rw [if_neg p3]
        exact no' k (by omega)
    by_cases p5 : rd x8 l[i].f1 ≥ 0
    case pos =>
      refine fall (fun k hk => ?_) (fun k hk => ?_)
      · simp only [spec_deArrivals.l1]
        rw [if_pos (by omega), if_pos (by omega), if_pos (by omega), rdSend1 ha, wa, inS, inS, inS]
        simp only [p1, p2, p4, decide_true, and_self, Option.bind_some, if_true]
        rw [if_neg p3, if_pos (by omega), if_pos (by omega), decide_eq_true p5]
        exact no k (by omega)
      · simp only [impl_arrivals.l0, impl_isMinute.f]
        rw [if_pos (by omega), if_pos (by omega), if_pos (by omega), rdSend1 ha, wa, inI, inI, inI]
        simp only [p1, p2, p4, decide_true, and_self, Option.bind_some, if_true]
        rw [if_neg p3, if_pos (by omega), if_pos (by omega), decide_eq_true p5]
        exact no' k (by omega)
    have e0 : rd (x8.set l[i].f1.toNat (wrap64 (l[i].f2 + d))) 0 = 0 := by
      have := rd_set_ne (xs := x8) (i := l[i].f1.toNat) (j := 0) (v := wrap64 (l[i].f2 + d)) (by omega)
      exact this.trans h0
    obtain ⟨r, h1, h2, hs, hm⟩ := arr_l1 d a ha0 ha1 l hn dd (i + 1) (x8.set l[i].f1.toNat (wrap64 (l[i].f2 + d))) (by omega) (by simpa using hx) e0 (fun c hm => by
      rw [List.take_succ_eq_append_getElem ha, List.mem_append, List.mem_singleton] at hm
      rcases hm with hm | rfl
      · exact hc c hm
      · exact ⟨p1.1, by omega⟩)
    have hq := arr_l2 d a l (x8.set l[i].f1.toNat (wrap64 (l[i].f2 + d))) (l.length : Int) (i : Int) (l.take i) (by rw [List.length_take]; omega) l[i].f0 l[i].f1 l[i].f2 r (100 + 60 * dd) (fun k hk => by rw [up64 ha (by omega)]; exact hs k hk) (l.take i).length 0
    have hlt : (l.take i).length = i := by rw [List.length_take]; omega
    rw [hlt] at hq
    refine ⟨if (l.take i).any (impl_arrivals_1.p l[i].f0 l[i].f2) then ([], false) else r, ?_, ?_, fun k hk => ?_, fun k hk => ?_⟩
    · split
      · intro h; cases h
      · exact h1
    · split
      · intro _; rfl
      · exact h2
    · obtain ⟨k, rfl⟩ : ∃ q, k = q + 2 := ⟨k - 2, by omega⟩
      simp only [spec_deArrivals.l1]
      rw [if_pos (by omega), if_pos (by omega), if_pos (by omega), rdSend1 ha, wa, inS, inS, inS]
      simp only [p1, p2, p4, decide_true, and_self, Option.bind_some, if_true]
      rw [if_neg p3, if_pos (by omega), if_pos (by omega), decide_eq_false p5]
      simp only [spec_deArrivals.j2, Bool.false_eq_true, if_false]
      rw [if_pos (by omega), if_pos (by omega), if_pos (by omega), if_pos (by omega), Int.toNat_natCast]
      have := hq k (by omega) (by omega)
      simp only [Option.bind_some, hlt]
      exact this
    · obtain ⟨k, rfl⟩ : ∃ q, k = q + 2 := ⟨k - 2, by omega⟩
      simp only [impl_arrivals.l0, impl_isMinute.f]
      rw [if_pos (by omega), if_pos (by omega), if_pos (by omega), rdSend1 ha, wa, inI, inI, inI]
      simp only [p1, p2, p4, decide_true, and_self, Option.bind_some, if_true]
      rw [if_neg p3, if_pos (by omega), if_pos (by omega), decide_eq_false p5]
      simp only [impl_arrivals.j1, Bool.false_eq_true, if_false, impl_arrivals_1.f, Option.bind_some]
      rw [if_pos (by omega), if_pos (by omega), Int.toNat_natCast]
      by_cases e : (l.take i).any (impl_arrivals_1.p l[i].f0 l[i].f2) = true
      · rw [if_pos e, if_pos e]
      · rw [if_neg e, if_neg e, if_pos (by omega), if_pos (by omega), up64 ha (by omega)]
        exact hm k (by omega)
theorem arr_l0 (d a : Int) (l : List S42) (m : Nat) (hm : m ≤ 40) (r : List Int × Bool) (B : Nat) (hpos : 0 < m) (H : ∀ k, B ≤ k → spec_deArrivals.l1 k d a l ((List.replicate m (-1)).set 0 0) l (l.length : Int) 0 = some r) : ∀ (dd i k : Nat), i + dd = m → B + dd < k → spec_deArrivals.l0 k d a l (List.replicate i (-1) ++ List.replicate dd 0) (m : Int) (i : Int) = some r
  | 0, i, k, hi, hk => by
    obtain ⟨k, rfl⟩ : ∃ q, k = q + 1 := ⟨k - 1, by omega⟩
    simp only [spec_deArrivals.l0]
    rw [if_neg (by omega), if_pos (by simp; omega)]
    have e : i = m := by omega
    subst e
    simpa using H k (by omega)
  | dd + 1, i, k, hi, hk => by
    obtain ⟨k, rfl⟩ : ∃ q, k = q + 1 := ⟨k - 1, by omega⟩
    have ih := arr_l0 d a l m hm r B hpos H dd (i + 1) k (by omega) (by omega)
    simp only [spec_deArrivals.l0]
    rw [if_pos (by omega), if_pos (by omega), if_pos (by simp; omega), w64 (x := (i : Int) + 1) (by omega) (by omega)]
    have e : (List.replicate i (-1 : Int) ++ List.replicate (dd + 1) 0).set ((i : Nat) : Int).toNat (-1) = List.replicate (i + 1) (-1) ++ List.replicate dd 0 := by
      rw [Int.toNat_natCast, List.set_append_right _ _ (by simp), List.length_replicate, Nat.sub_self, List.replicate_succ (n := dd), List.set_cons_zero, List.replicate_succ' (n := i)]
      simp
    rw [e]
    exact ih
/-- The two tellings of the arrivals agree. -/
theorem arr_both (d a : Int) (ha0 : 1 ≤ a) (ha1 : a ≤ 40) (l : List S42) (hl : l.length ≤ 1048576) : ∃ r : List Int × Bool, (r.2 = true → (r.1.length : Int) = a ∧ rd r.1 0 = 0) ∧ (r.2 = false → r.1 = []) ∧ (∀ k, 5000 ≤ k → spec_deArrivals.f k d a l = some r) ∧ (∀ k, 5000 ≤ k → impl_arrivals.f k d a l = some r) := by
  by_cases h : (l.length : Int) > 40
  · refine ⟨([], false), fun h => (by cases h), fun _ => rfl, fun k _ => ?_, fun k _ => ?_⟩
    · unfold spec_deArrivals.f
      rw [if_pos h]
    · unfold impl_arrivals.f
      rw [if_pos h]
  · obtain ⟨m, rfl⟩ := Int.eq_ofNat_of_zero_le (show 0 ≤ a by omega)
    have e0 : rd ((List.replicate m (-1)).set 0 0) 0 = 0 := by
      obtain ⟨q, rfl⟩ : ∃ q, m = q + 1 := ⟨m - 1, by omega⟩
      rfl
    obtain ⟨r, h1, h2, hs, hi⟩ := arr_l1 d (m : Int) ha0 ha1 l (by omega) l.length 0 ((List.replicate m (-1)).set 0 0) (by omega) (by simp) e0 (by simp)
    refine ⟨r, h1, h2, fun k hk => ?_, fun k hk => ?_⟩
    · unfold spec_deArrivals.f
      rw [if_neg h, if_pos (by omega), if_pos (by omega)]
      have := arr_l0 d (m : Int) l m (by omega) r (100 + 60 * l.length) (by omega) hs m 0 k (by omega) (by omega)
      simpa using this
    · unfold impl_arrivals.f slices_Repeat_int_int.f
      rw [if_neg h, if_pos ⟨rfl, by omega, by omega⟩]
      simp only [Option.bind_some]
      rw [if_pos (by simp; omega)]
      have := hi k (by omega)
      simpa [rd] using this
theorem askS (d a : Int) : spec_deAsked.f d a = some (decide (1 ≤ d ∧ d ≤ 10) && decide (1 ≤ a ∧ a ≤ 40)) := by
  unfold spec_deAsked.f spec_deDelay.f
  simp only [inS, Option.bind_some]
  by_cases h : 1 ≤ d ∧ d ≤ 10
  · rw [if_pos (decide_eq_true h), decide_eq_true h]; rfl
  · rw [if_neg (by simp [h])]; simp [h]
theorem askI (d a : Int) : impl_areDelayed.f d a = some (decide (1 ≤ d ∧ d ≤ 10) && decide (1 ≤ a ∧ a ≤ 40)) := by
  unfold impl_areDelayed.f impl_isDelay.f
  simp only [inI, Option.bind_some]
  by_cases h : 1 ≤ d ∧ d ≤ 10
  · rw [if_pos (decide_eq_true h), decide_eq_true h]; rfl
  · rw [if_neg (by simp [h])]; simp [h]
theorem has_l0 (x : Int) (l : List Int) (hn : l.length ≤ 1000) : ∀ (d i k : Nat), i + d = l.length → d < k → spec_l1Has.l0 k x l (l.length : Int) (i : Int) = some (decide (x ∈ l.drop i))
  | 0, i, k, hi, hk => by
    obtain ⟨k, rfl⟩ : ∃ q, k = q + 1 := ⟨k - 1, by omega⟩
    simp only [spec_l1Has.l0]
    rw [if_neg (by omega), List.drop_eq_nil_of_le (by omega)]
    simp
  | d + 1, i, k, hi, hk => by
    obtain ⟨k, rfl⟩ : ∃ q, k = q + 1 := ⟨k - 1, by omega⟩
    have ih := has_l0 x l hn d (i + 1) k (by omega) (by omega)
    have ha : i < l.length := by omega
    simp only [spec_l1Has.l0]
    rw [if_pos (by omega), if_pos (by omega), if_pos (by omega), rd_lt ha, up64 ha (by omega), ih, List.drop_eq_getElem_cons ha]
    by_cases e : l[i] = x
    · rw [if_pos e]; simp [e]
    · rw [if_neg e]
      congr 1
      apply decide_eq_decide.mpr
      rw [List.mem_cons]
      exact ⟨.inr, fun h => h.resolve_left (fun z => e z.symm)⟩
/-- The last of a list of arrivals. -/
def lst (l : List Int) (m : Int) : Int := l.foldl (fun m x => if m < x then x else m) m
theorem max_l0 (l : List Int) (hn : l.length ≤ 1000) : ∀ (d i k : Nat) (m : Int), i + d = l.length → d < k → slices_Max_int_int.l0 k l m (i : Int) = some (lst (l.drop i) m)
  | 0, i, k, m, hi, hk => by
    obtain ⟨k, rfl⟩ : ∃ q, k = q + 1 := ⟨k - 1, by omega⟩
    simp only [slices_Max_int_int.l0]
    rw [if_neg (by omega), List.drop_eq_nil_of_le (by omega)]
    rfl
  | d + 1, i, k, m, hi, hk => by
    obtain ⟨k, rfl⟩ : ∃ q, k = q + 1 := ⟨k - 1, by omega⟩
    have ha : i < l.length := by omega
    simp only [slices_Max_int_int.l0]
    rw [if_pos (by omega), if_pos (by omega), rd_lt ha, up64 ha (by omega), max_l0 l hn d (i + 1) k _ (by omega) (by omega), List.drop_eq_getElem_cons ha]
    have e : mx m l[i] = if m < l[i] then l[i] else m := rfl
    rw [e]
    rfl
theorem last_l0 (l : List Int) (hn : l.length ≤ 1000) : ∀ (d i k : Nat) (m : Int), i + d = l.length → d < k → spec_deLast.l0 k m l (l.length : Int) (i : Int) = some (lst (l.drop i) m, true)
  | 0, i, k, m, hi, hk => by
    obtain ⟨k, rfl⟩ : ∃ q, k = q + 1 := ⟨k - 1, by omega⟩
    simp only [spec_deLast.l0]
    rw [if_neg (by omega), List.drop_eq_nil_of_le (by omega)]
    rfl
  | d + 1, i, k, m, hi, hk => by
    obtain ⟨k, rfl⟩ : ∃ q, k = q + 1 := ⟨k - 1, by omega⟩
    have ha : i < l.length := by omega
    have e : spec_l1Most.f m l[i] = some (if m < l[i] then l[i] else m) := by unfold spec_l1Most.f; split <;> split <;> first | rfl | (congr 1; omega)
    simp only [spec_deLast.l0]
    rw [if_pos (by omega), if_pos (by omega), if_pos (by omega), rd_lt ha, up64 ha (by omega), e]
    simp only [Option.bind_some]
    rw [last_l0 l hn d (i + 1) k _ (by omega) (by omega), List.drop_eq_getElem_cons ha]
    rfl
/-- The last arrival: the two tellings agree, and the arrivals are those of a list of so many people. -/
theorem last_both (d a : Int) (l : List S42) (hl : l.length ≤ 1048576) : ∃ r : Int × Bool, (∀ k, 6000 ≤ k → spec_deLast.f k d a l = some r) ∧ (∀ k, 6000 ≤ k → impl_LastArrival.f k d a l = some r) ∧ (r.2 = true → (1 ≤ d ∧ d ≤ 10) ∧ (1 ≤ a ∧ a ≤ 40) ∧ ∃ at_ : List Int, (at_.length : Int) = a ∧ (∀ k, 5000 ≤ k → spec_deArrivals.f k d a l = some (at_, true)) ∧ (∀ k, 5000 ≤ k → impl_arrivals.f k d a l = some (at_, true))) := by
  by_cases h : (1 ≤ d ∧ d ≤ 10) ∧ (1 ≤ a ∧ a ≤ 40)
  · obtain ⟨⟨o, b⟩, h1, h0, hs, hi⟩ := arr_both d a h.2.1 h.2.2 l hl
    cases b with
    | false =>
      obtain rfl : o = [] := h0 rfl
      refine ⟨(0, false), fun k hk => ?_, fun k hk => ?_, fun h => (by cases h)⟩
      · obtain ⟨k, rfl⟩ : ∃ q, k = q + 1 := ⟨k - 1, by omega⟩
        unfold spec_deLast.f
        simp [askS, h, hs (k + 1) (by omega), spec_deLast.j0]
      · unfold impl_LastArrival.f impl_ArrivalsOf.f impl_areSent.f impl_AreSends.f
        simp [askI, h, hi k (by omega)]
    | true =>
      obtain ⟨ha, h00⟩ := h1 rfl
      dsimp only at ha h00
      have hn : o.length ≤ 1000 := by omega
      by_cases hm : (-1 : Int) ∈ o
      · refine ⟨(0, false), fun k hk => ?_, fun k hk => ?_, fun h => (by cases h)⟩
        · obtain ⟨k, rfl⟩ : ∃ q, k = q + 1 := ⟨k - 1, by omega⟩
          have e := has_l0 (-1) o hn o.length 0 (k + 1) (by omega) (by omega)
          unfold spec_deLast.f spec_l1Has.f
          simp only [askS, h, hs (k + 1) (by omega), decide_true, Bool.and_self, and_self, if_true, Option.bind_some]
          rw [show (0 : Int) = ((0 : Nat) : Int) from rfl, e]
          simp [spec_deLast.j0, hm]
        · have e := contains_f o (-1) (by omega) (k := k) (by omega)
          unfold impl_LastArrival.f impl_ArrivalsOf.f impl_areSent.f impl_AreSends.f
          simp [askI, h, hi k (by omega), e, hm]
      · refine ⟨(lst o 0, true), fun k hk => ?_, fun k hk => ?_, fun _ => ⟨h.1, h.2, o, ha, hs, hi⟩⟩
        · obtain ⟨k, rfl⟩ : ∃ q, k = q + 1 := ⟨k - 1, by omega⟩
          have e := has_l0 (-1) o hn o.length 0 (k + 1) (by omega) (by omega)
          have e2 := last_l0 o hn o.length 0 k 0 (by omega) (by omega)
          unfold spec_deLast.f spec_l1Has.f
          simp only [askS, h, hs (k + 1) (by omega), decide_true, Bool.and_self, and_self, if_true, Option.bind_some]
          rw [show (0 : Int) = ((0 : Nat) : Int) from rfl, e]
          simp only [List.drop_zero, hm, decide_false, Option.bind_some, spec_deLast.j0, Bool.false_eq_true, if_false]
          exact e2
        · have e := contains_f o (-1) (by omega) (k := k) (by omega)
          have e2 := max_l0 o hn (o.length - 1) 1 k 0 (by omega) (by omega)
          have e3 : lst (o.drop 1) 0 = lst o 0 := by
            cases o with
            | nil => rfl
            | cons y ys =>
              obtain rfl : y = 0 := h00
              rfl
          rw [e3] at e2
          unfold impl_LastArrival.f impl_ArrivalsOf.f impl_areSent.f impl_AreSends.f
          simp only [askI, h, hi k (by omega), e, hm, decide_true, decide_false, Bool.and_self, and_self, if_true, Option.bind_some, Bool.false_eq_true, if_false]
          unfold slices_Max_int_int.f
          rw [if_neg (by omega), if_pos (by omega), h00]
          have e4 : slices_Max_int_int.l0 k o 0 1 = some (lst o 0) := e2
          rw [e4]
          rfl
  · have e : (decide (1 ≤ d ∧ d ≤ 10) && decide (1 ≤ a ∧ a ≤ 40)) = false := by rw [← Bool.decide_and]; exact decide_eq_false h
    refine ⟨(0, false), fun k hk => ?_, fun k hk => ?_, fun h => (by cases h)⟩
    · unfold spec_deLast.f
      rw [askS, e]; rfl
    · unfold impl_LastArrival.f impl_ArrivalsOf.f impl_areSent.f impl_AreSends.f
      rw [askI, e]; rfl
/-- What is idle, from a place of the arrivals on. -/
def idl (t : Int) : List Int → Int → Int
  | [], s => s
  | x :: xs, s => idl t xs (wrap64 (s + wrap64 (t - x)))
theorem wrap_add (a b : Int) : wrap64 (wrap64 a + b) = wrap64 (a + b) := by unfold wrap64; omega
theorem wrap_add' (a b n : Int) : wrap64 (wrap64 (a - n) + b) = wrap64 ((a + b) - n) := by rw [wrap_add]; congr 1; omega
theorem idl_sub (s n : Int) : wrap64 (s - n) = wrap64 (wrap64 s - n) := by
  rw [Int.sub_eq_add_neg, Int.sub_eq_add_neg, wrap_add]
theorem idl_add (t n : Int) (xs : List Int) : ∀ (s : Int), idl t xs (wrap64 (s - n)) = wrap64 (idl t xs (wrap64 s) - n) := by
  induction xs with
  | nil =>
    intro s
    rw [idl, idl]
    exact idl_sub s n
  | cons x xs ih =>
    intro s
    rw [idl, idl, wrap_add', wrap_add]
    exact ih (s + wrap64 (t - x))
theorem idleS_l0 (l : List S42) (t : Int) (o : List Int) (hn : o.length ≤ 1000) : ∀ (d i k : Nat) (s : Int), i + d = o.length → d < k → spec_IdleMinutes.l0 k l t s o (o.length : Int) (i : Int) = some (wrap64 (idl t (o.drop i) s - (l.length : Int)), true)
  | 0, i, k, s, hi, hk => by
    obtain ⟨k, rfl⟩ : ∃ q, k = q + 1 := ⟨k - 1, by omega⟩
    simp only [spec_IdleMinutes.l0]
    rw [if_neg (by omega), List.drop_eq_nil_of_le (by omega)]
    rfl
  | d + 1, i, k, s, hi, hk => by
    obtain ⟨k, rfl⟩ : ∃ q, k = q + 1 := ⟨k - 1, by omega⟩
    have ha : i < o.length := by omega
    simp only [spec_IdleMinutes.l0]
    rw [if_pos (by omega), if_pos (by omega), if_pos (by omega), rd_lt ha, up64 ha (by omega), idleS_l0 l t o hn d (i + 1) k _ (by omega) (by omega), List.drop_eq_getElem_cons ha]
    rfl
theorem idleI_l0 (t : Int) (o : List Int) (hn : o.length ≤ 1000) : ∀ (d i k : Nat) (s : Int), i + d = o.length → d < k → impl_IdleMinutes.l0 k t s o (o.length : Int) (i : Int) = some (idl t (o.drop i) s, true)
  | 0, i, k, s, hi, hk => by
    obtain ⟨k, rfl⟩ : ∃ q, k = q + 1 := ⟨k - 1, by omega⟩
    simp only [impl_IdleMinutes.l0]
    rw [if_neg (by omega), List.drop_eq_nil_of_le (by omega)]
    rfl
  | d + 1, i, k, s, hi, hk => by
    obtain ⟨k, rfl⟩ : ∃ q, k = q + 1 := ⟨k - 1, by omega⟩
    have ha : i < o.length := by omega
    simp only [impl_IdleMinutes.l0]
    rw [if_pos (by omega), if_pos (by omega), if_pos (by omega), rd_lt ha, up64 ha (by omega), idleI_l0 t o hn d (i + 1) k _ (by omega) (by omega), List.drop_eq_getElem_cons ha]
    rfl
theorem IdleMinutes_both (d a : Int) (l : List S42) (hl : l.length ≤ 1048576) : ∃ r : Int × Bool, (∀ k, 8000 ≤ k → spec_IdleMinutes.f k d a l = some r) ∧ (∀ k, 8000 ≤ k → impl_IdleMinutes.f k d a l = some r) := by
  obtain ⟨⟨t, b⟩, hs, hi, hr⟩ := last_both d a l hl
  cases b with
  | false =>
    refine ⟨(0, false), fun k hk => ?_, fun k hk => ?_⟩
    · unfold spec_IdleMinutes.f
      rw [hs k (by omega)]; rfl
    · unfold impl_IdleMinutes.f
      rw [hi k (by omega)]; rfl
  | true =>
    obtain ⟨hd, ha, o, ho, e1, e2⟩ := hr rfl
    refine ⟨(wrap64 (idl t o 0 - (l.length : Int)), true), fun k hk => ?_, fun k hk => ?_⟩
    · unfold spec_IdleMinutes.f
      rw [hs k (by omega)]
      simp only [Option.bind_some, if_true, e1 k (by omega)]
      have := idleS_l0 l t o (by omega) o.length 0 k 0 (by omega) (by omega)
      simpa using this
    · unfold impl_IdleMinutes.f
      rw [hi k (by omega)]
      simp only [Option.bind_some, if_true, e2 k (by omega)]
      have := idleI_l0 t o (by omega) o.length 0 k (wrap64 (-(l.length : Int))) (by omega) (by omega)
      have e3 := idl_add t (l.length : Int) o 0
      rw [Int.zero_sub, show wrap64 0 = 0 from w64 (by omega) (by omega)] at e3
      rw [← e3]
      simpa using this
theorem FnExactIdleMinutes : ∀ (a0 : Int) (a1 : Int) (l2 : List (S44)), (Lit.int .i64 a0).wf = true → (Lit.int .i64 a1).wf = true → l2.length ≤ maxLen → (∀ x ∈ l2, (fun x => (Lit.int .i64 x.f0).wf = true ∧ (Lit.int .i64 x.f1).wf = true ∧ (fun n => (Lit.int .i64 n).wf = true) x.f2) x) → ∃ k, laws_FnExactIdleMinutes.f k a0 a1 l2 = some true := by
  intro d a l _ _ hm _
  refine ⟨2000000, ?_⟩
  unfold laws_FnExactIdleMinutes.f
  rw [szSendS_f l (by unfold maxLen at hm; omega)]
  simp only [Option.bind_some]
  by_cases h : l.length ≤ 1048576
  · obtain ⟨r, hs, hi⟩ := IdleMinutes_both d a (l.map cvSend) (by simpa using h)
    have t1 : ∀ k, 1100000 ≤ k → laws_toSendS.f k l = some (l.map cvSend) := fun k hk => toSendS_f l h (by omega)
    have q1 : ∀ k, 1100000 ≤ k → laws_eqSendS.f k (l.map cvSend) (l.map cvSend) = some true := fun k hk => eqSendS_f _ (by simp; omega) (by simp; omega)
    rw [if_pos h, if_neg (by omega)]
    simp (disch := omega) only [t1, hs, hi, q1, Option.bind_some, if_true, bne_self_eq_false, Bool.false_eq_true, if_false]
    rw [laws_FnExactIdleMinutes.j0.eq_def]
    simp (disch := omega) only [t1, q1, Option.bind_some, if_true, Bool.false_eq_true, if_false]
  · rw [if_neg h]
    simp

end Go.Proofs.Ythkoignldhocgac.Pure
