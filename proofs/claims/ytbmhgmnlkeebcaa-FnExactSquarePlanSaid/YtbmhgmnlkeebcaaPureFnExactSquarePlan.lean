/- The pure statement of the law FnExactSquarePlan is proved: for every input its function answers true. No conditions. -/
import Derived.Test.YtbmhgmnlkeebcaaPFnExactSquarePlanx15
set_option linter.unusedSimpArgs false
set_option linter.unusedVariables false
namespace Go.Proofs.Ytbmhgmnlkeebcaa.Pure
open Go.RowKit Go.Proofs.Ytbmhgmnlkeebcaa.PFnExactSquarePlan Go.Proofs.YtbmhgmnlkeebcaaW.PrintWords Go.Proofs.YtbmhgmnlkeebcaaW.PrintLast Go.Proofs.YtbmhgmnlkeebcaaW.PrintMore

theorem w64 {x : Int} (h0 : -9223372036854775808 ≤ x) (h1 : x ≤ 9223372036854775807) : wrap64 x = x := by unfold wrap64; omega
theorem up64 {i n : Nat} (h : i < n) (hn : n ≤ 4611686018427387904) : wrap64 ((i : Int) + 1) = ((i + 1 : Nat) : Int) := by rw [w64 (by omega) (by omega)]; omega
theorem rd_lt {xs : List Int} {i : Nat} (h : i < xs.length) : rd xs (i : Int) = xs[i] := by unfold rd; simp [List.getD_eq_getElem?_getD, h]
/-- An element of the law's own type, as the program's. -/
def cvCall (x : S38) : S40 := ⟨x.f0, x.f1⟩
theorem rdCall0 {xs : List S38} {i : Nat} (h : i < xs.length) : rd_T38 xs (i : Int) = xs[i] := by unfold rd_T38; simp [List.getD_eq_getElem?_getD, h]
theorem rdCall1 {xs : List S40} {i : Nat} (h : i < xs.length) : rd_T40 xs (i : Int) = xs[i] := by unfold rd_T40; simp [List.getD_eq_getElem?_getD, h]
theorem toCallS_l0 (a : List S38) (hn : a.length ≤ 4611686018427387904) : ∀ (d i k : Nat), i + d = a.length → d < k → laws_toCallS.l0 k a ((a.take i).map cvCall ++ List.replicate d z40) (i : Int) = some (a.map cvCall)
  | 0, i, k, hi, hk => by
    obtain ⟨k, rfl⟩ : ∃ q, k = q + 1 := ⟨k - 1, by omega⟩
    simp only [laws_toCallS.l0]
    rw [if_neg (by omega), List.take_of_length_le (by omega)]
    simp
  | d + 1, i, k, hi, hk => by
    obtain ⟨k, rfl⟩ : ∃ q, k = q + 1 := ⟨k - 1, by omega⟩
    have ih := toCallS_l0 a hn d (i + 1) k (by omega) (by omega)
    have ha : i < a.length := by omega
    simp only [laws_toCallS.l0, laws_toCall.f, Option.bind_some]
    rw [if_pos (by omega), if_pos (by omega), if_pos (by simp; omega), up64 ha hn, rdCall0 ha]
    have he : ((a.take i).map cvCall ++ List.replicate (d + 1) z40).set ((i : Nat) : Int).toNat (cvCall a[i]) = (a.take (i + 1)).map cvCall ++ List.replicate d z40 := by
      rw [List.set_append_right _ _ (by simp; omega), List.replicate_succ]
      have e : ((i : Nat) : Int).toNat - ((a.take i).map cvCall).length = 0 := by simp; omega
      rw [e, List.set_cons_zero, List.take_succ_eq_append_getElem ha]
      simp only [List.append_assoc, List.singleton_append, List.map_append, List.map_cons, List.map_nil]
    exact (congrArg (fun z => laws_toCallS.l0 k a z ((i + 1 : Nat) : Int)) he).trans ih
theorem toCallS_f (a : List S38) (hn : a.length ≤ 1048576) {k : Nat} (hk : a.length < k) : laws_toCallS.f k a = some (a.map cvCall) := by
  unfold laws_toCallS.f
  rw [if_pos (by omega), if_pos (by omega)]
  exact toCallS_l0 a (by omega) a.length 0 k (by omega) hk
theorem eqCallS_l0 (a : List S40) (hn : a.length ≤ 4611686018427387904) : ∀ (d i k : Nat), i + d = a.length → d < k → laws_eqCallS.l0 k a a (i : Int) = some true
  | 0, i, k, hi, hk => by
    obtain ⟨k, rfl⟩ : ∃ q, k = q + 1 := ⟨k - 1, by omega⟩
    simp only [laws_eqCallS.l0]
    rw [if_neg (by omega)]
  | d + 1, i, k, hi, hk => by
    obtain ⟨k, rfl⟩ : ∃ q, k = q + 1 := ⟨k - 1, by omega⟩
    have ih := eqCallS_l0 a hn d (i + 1) k (by omega) (by omega)
    have ha : i < a.length := by omega
    simp only [laws_eqCallS.l0, laws_eqCall.f]
    rw [if_pos (by omega), if_pos (by omega), if_pos (by omega), up64 ha hn]
    simpa using ih
theorem eqCallS_f (a : List S40) (hn : a.length ≤ 4611686018427387904) {k : Nat} (hk : a.length < k) : laws_eqCallS.f k a a = some true := by
  unfold laws_eqCallS.f
  rw [if_pos rfl]
  exact eqCallS_l0 a hn a.length 0 k (by omega) hk
theorem szCallS_f (a : List S38) (hn : a.length ≤ 9223372036854775807) : laws_szCallS.f a 1048576 = some (if a.length ≤ 1048576 then 1048576 - (a.length : Int) else -1) := by
  unfold laws_szCallS.f
  rw [w64 (by omega) (by omega)]
  by_cases h : a.length ≤ 1048576
  · rw [if_neg (by omega), if_pos h]
  · rw [if_pos (by omega), if_neg h]
/-- The place of the first x in a list, or -1. -/
def ix (l : List Int) (x : Int) : Int := if x ∈ l then (l.idxOf x : Int) else -1
theorem index_l0 (a : List Int) (x : Int) (hn : a.length ≤ 4611686018427387904) : ∀ (d i k : Nat), i + d = a.length → d < k → x ∉ a.take i → slices_Index_int_int.l0 k a x (a.length : Int) (i : Int) = some (ix a x)
  | 0, i, k, hi, hk, hx => by
    obtain ⟨k, rfl⟩ : ∃ q, k = q + 1 := ⟨k - 1, by omega⟩
    simp only [slices_Index_int_int.l0]
    rw [List.take_of_length_le (by omega)] at hx
    rw [if_neg (by omega)]
    unfold ix
    rw [if_neg hx]
  | d + 1, i, k, hi, hk, hx => by
    obtain ⟨k, rfl⟩ : ∃ q, k = q + 1 := ⟨k - 1, by omega⟩
    have ha : i < a.length := by omega
    simp only [slices_Index_int_int.l0]
    rw [if_pos (by omega), if_pos (by omega), if_pos (by omega), up64 ha hn, rd_lt ha]
    by_cases e : x = a[i]
    · rw [if_pos e]
      unfold ix
      have hm : x ∈ a := by rw [e]; exact List.getElem_mem ha
      rw [if_pos hm]
      have h2 : a.idxOf x = i := by
        have h3 : a = a.take i ++ a[i] :: a.drop (i + 1) := by rw [← List.drop_eq_getElem_cons ha, List.take_append_drop]
        rw [h3, List.idxOf_append, if_neg hx, ← e, List.idxOf_cons_self]
        simp; omega
      rw [h2]
    · rw [if_neg e]
      refine index_l0 a x hn d (i + 1) k (by omega) (by omega) ?_
      rw [List.take_succ_eq_append_getElem ha, List.mem_append, List.mem_singleton]
      exact fun h => h.elim hx e
theorem index_f (a : List Int) (x : Int) (hn : a.length ≤ 4611686018427387904) {k : Nat} (hk : a.length < k) : slices_Index_int_int.f k a x = some (ix a x) :=
  index_l0 a x hn a.length 0 k (by omega) hk (by simp)
theorem ix_mem (l : List Int) (x : Int) : ix l x ≥ 0 ↔ x ∈ l := by
  unfold ix
  split <;> simp_all
theorem contains_f (a : List Int) (x : Int) (hn : a.length ≤ 4611686018427387904) {k : Nat} (hk : a.length < k) : slices_Contains_int_int.f k a x = some (decide (x ∈ a)) := by
  unfold slices_Contains_int_int.f
  rw [index_f a x hn hk]
  simp [ix_mem]
theorem netIn (x lo hi : Int) : spec_l1In.f x lo hi = some (decide (lo ≤ x ∧ x ≤ hi)) := by
  unfold spec_l1In.f
  by_cases h : lo ≤ x
  · rw [if_pos h]; simp [h]
  · rw [if_neg h]; simp [h]
theorem netWithin (x lo hi : Int) : impl_within.f x lo hi = some (decide (lo ≤ x ∧ x ≤ hi)) := by
  unfold impl_within.f
  by_cases h : lo ≤ x
  · rw [if_pos h]; simp [h]
  · rw [if_neg h]; simp [h]
/-- A call of two of so many friends, the lower one first. -/
def isC (a : Int) (c : S40) : Bool := decide (0 ≤ c.f0) && (decide (c.f0 < c.f1) && decide (c.f1 < a))
/-- Does one call stand before another? -/
def ltC (c e : S40) : Bool := decide (c.f0 < e.f0) || (decide (c.f0 = e.f0) && decide (c.f1 < e.f1))
theorem isCall_f (a : Int) (c : S40) : impl_isCall.f a c.f0 c.f1 = some (isC a c) := by
  unfold impl_isCall.f isC
  by_cases h : c.f0 ≥ 0
  · by_cases h2 : c.f0 < c.f1
    · rw [if_pos h, if_pos h2]; simp [h, h2]
    · rw [if_pos h, if_neg h2]; simp [h2]
  · rw [if_neg h]; simp [h]
theorem caCall_f (a : Int) (h1 : 1 ≤ a) (h10 : a ≤ 10) (c : S40) : spec_caCall.f a c.f0 c.f1 = some (isC a c) := by
  unfold spec_caCall.f isC
  rw [netIn, w64 (x := a - 1) (by omega) (by omega)]
  simp only [Option.bind_some]
  by_cases h : 0 ≤ c.f0 ∧ c.f0 ≤ a - 1
  · rw [if_pos (decide_eq_true h), w64 (x := c.f0 + 1) (by omega) (by omega), netIn]
    simp only [Option.bind_some, Option.some.injEq]
    rw [Bool.eq_iff_iff]
    simp only [decide_eq_true_eq, Bool.and_eq_true]
    omega
  · rw [if_neg (by simp [h])]
    simp only [Option.some.injEq]
    rw [Bool.eq_iff_iff]
    simp only [decide_eq_true_eq, Bool.and_eq_true, Bool.false_eq_true, false_iff]
    omega
theorem neLess_f (c e : S40) : spec_neLess.f c.f0 c.f1 e.f0 e.f1 = some (ltC c e) := by
  unfold spec_neLess.f ltC
  by_cases h : c.f0 < e.f0
  · rw [if_pos h]; simp [h]
  · by_cases h2 : c.f0 = e.f0
    · rw [if_neg h, if_pos h2]; simp [h2]
    · rw [if_neg h, if_neg h2]; simp [h, h2]
/-- What comparing two numbers answers. -/
def cmpI (x y : Int) : Int := if x < y then -1 else if x > y then 1 else 0
theorem compare_f (x y : Int) : cmp_Compare_int.f x y = some (cmpI x y) := by
  unfold cmp_Compare_int.f cmp_isNaN_int.f cmpI
  simp only [bne_self_eq_false, Option.bind_some, Bool.false_eq_true, if_false]
  split
  · rfl
  · split <;> rfl
theorem or2_f (x y : Int) {k : Nat} (hk : 4 < k) : cmp_Or_int.f k [x, y] = some (if x = 0 then y else x) := by
  obtain ⟨k, rfl⟩ : ∃ q, k = q + 3 := ⟨k - 3, by omega⟩
  have r0 : rd [x, y] 0 = x := rfl
  have r1 : rd [x, y] 1 = y := rfl
  have u0 : wrap64 (0 + 1) = 1 := w64 (by omega) (by omega)
  have u1 : wrap64 (1 + 1) = 2 := w64 (by omega) (by omega)
  unfold cmp_Or_int.f
  have e2 : cmp_Or_int.l0 (k + 1) 0 [x, y] 2 2 = some 0 := by
    simp only [cmp_Or_int.l0]; rw [if_neg (by omega)]
  have e1 : cmp_Or_int.l0 (k + 2) 0 [x, y] 2 1 = some y := by
    rw [cmp_Or_int.l0, if_pos (by omega), if_pos (by omega), if_pos (by simp), r1, u1]
    by_cases hy : y = 0
    · rw [if_pos hy, e2, hy]
    · rw [if_neg hy]
  show cmp_Or_int.l0 (k + 3) 0 [x, y] 2 0 = _
  rw [cmp_Or_int.l0, if_pos (by omega), if_pos (by omega), if_pos (by simp), r0, u0]
  by_cases hx : x = 0
  · rw [if_pos hx, e1, if_pos hx]
  · rw [if_neg hx, if_neg hx]
theorem compareCalls_f (c e : S40) {k : Nat} (hk : 4 < k) : ∃ v, impl_compareCalls.f k c.f0 c.f1 e.f0 e.f1 = some v ∧ (v ≥ 0 ↔ ltC c e = false) := by
  unfold impl_compareCalls.f
  simp only [compare_f, Option.bind_some, or2_f _ _ hk]
  refine ⟨_, rfl, ?_⟩
  unfold ltC cmpI
  by_cases h0 : c.f0 < e.f0
  · simp [h0]
  · by_cases h1 : c.f0 > e.f0
    · have h2 : ¬ c.f0 = e.f0 := by omega
      simp [h0, h1, h2]
    · have h2 : c.f0 = e.f0 := by omega
      by_cases h3 : c.f1 < e.f1
      · simp [h2, h3]
      · by_cases h4 : c.f1 > e.f1
        · simp [h2, h3, h4]
        · simp [h2, h3, h4]
/-- Is the call at this place a good one, and behind the one ahead of it? -/
def okP (a : Int) (l : List S40) (i : Nat) : Bool := isC a (rd_T40 l (i : Int)) && (decide (i = 0) || ltC (rd_T40 l ((i : Int) - 1)) (rd_T40 l (i : Int)))
def okFrom (a : Int) (l : List S40) : Nat → Nat → Bool
  | _, 0 => true
  | i, d + 1 => okP a l i && okFrom a l (i + 1) d
theorem neGood_l0 (a : Int) (h1 : 1 ≤ a) (h10 : a ≤ 10) (l : List S40) (hn : l.length ≤ 1048576) : ∀ (d i k : Nat), i + d = l.length → d < k → spec_neGood.l0 k a l l (l.length : Int) (i : Int) = some (okFrom a l i d)
  | 0, i, k, hi, hk => by
    obtain ⟨k, rfl⟩ : ∃ q, k = q + 1 := ⟨k - 1, by omega⟩
    simp only [spec_neGood.l0]
    rw [if_neg (by omega)]
    rfl
  | d + 1, i, k, hi, hk => by
    obtain ⟨k, rfl⟩ : ∃ q, k = q + 1 := ⟨k - 1, by omega⟩
    have ih := neGood_l0 a h1 h10 l hn d (i + 1) k (by omega) (by omega)
    have ha : i < l.length := by omega
    simp only [spec_neGood.l0]
    rw [if_pos (by omega), if_pos (by omega), if_pos (by omega), caCall_f a h1 h10, up64 ha (by omega), ih, w64 (x := (i : Int) - 1) (by omega) (by omega)]
    simp only [Option.bind_some, okFrom, okP]
    by_cases hc : isC a (rd_T40 l (i : Int)) = true
    · rw [if_pos hc, hc]
      by_cases h0 : i = 0
      · rw [if_neg (by omega)]; simp [h0]
      · rw [if_pos (by omega), if_pos (by omega), if_pos (by omega), neLess_f]
        simp only [Option.bind_some]
        cases ltC (rd_T40 l ((i : Int) - 1)) (rd_T40 l (i : Int)) <;> simp [h0]
    · rw [if_neg hc]
      rw [Bool.not_eq_true] at hc
      rw [hc]; rfl
theorem friends_f (a : Int) : spec_neFriends.f a = some (decide (1 ≤ a ∧ a ≤ 10)) := by
  unfold spec_neFriends.f
  rw [netIn]; rfl
theorem areFriends_f (a : Int) : impl_areFriends.f a = some (decide (1 ≤ a ∧ a ≤ 10)) := by
  unfold impl_areFriends.f
  rw [netWithin]; rfl
theorem arePairs_l0 (a : Int) (l : List S40) (hn : l.length ≤ 1048576) : ∀ (d i k : Nat), i + d = l.length → d + 10 < k → impl_ArePairs.l0 k a l l (l.length : Int) (i : Int) = some (okFrom a l i d && decide (1 ≤ a ∧ a ≤ 10))
  | 0, i, k, hi, hk => by
    obtain ⟨k, rfl⟩ : ∃ q, k = q + 1 := ⟨k - 1, by omega⟩
    simp only [impl_ArePairs.l0]
    rw [if_neg (by omega), areFriends_f]
    rfl
  | d + 1, i, k, hi, hk => by
    obtain ⟨k, rfl⟩ : ∃ q, k = q + 1 := ⟨k - 1, by omega⟩
    have ih := arePairs_l0 a l hn d (i + 1) k (by omega) (by omega)
    have ha : i < l.length := by omega
    simp only [impl_ArePairs.l0]
    rw [if_pos (by omega), if_pos (by omega), if_pos (by omega), isCall_f, up64 ha (by omega), ih, w64 (x := (i : Int) - 1) (by omega) (by omega)]
    simp only [Option.bind_some, okFrom, okP]
    by_cases hc : isC a (rd_T40 l (i : Int)) = true
    · rw [if_pos hc, hc]
      by_cases h0 : i = 0
      · rw [if_neg (by omega)]; simp [h0]
      · rw [if_pos (by omega), if_pos (by omega), if_pos (by omega)]
        obtain ⟨v, e1, e2⟩ := compareCalls_f (rd_T40 l ((i : Int) - 1)) (rd_T40 l (i : Int)) (k := k) (by omega)
        rw [e1]
        simp only [Option.bind_some]
        by_cases hv : v ≥ 0
        · rw [if_pos hv, e2.1 hv]; simp [h0]
        · rw [if_neg hv]
          have : ltC (rd_T40 l ((i : Int) - 1)) (rd_T40 l (i : Int)) = true := by
            cases h : ltC (rd_T40 l ((i : Int) - 1)) (rd_T40 l (i : Int))
            · exact absurd (e2.2 h) hv
            · rfl
          rw [this]; simp
    · rw [if_neg hc]
      rw [Bool.not_eq_true] at hc
      rw [hc]; rfl
theorem okFrom_at {a : Int} {l : List S40} : ∀ {d i j : Nat}, okFrom a l i d = true → i ≤ j → j < i + d → okP a l j = true
  | 0, i, j, h, h1, h2 => by omega
  | d + 1, i, j, h, h1, h2 => by
    simp only [okFrom, Bool.and_eq_true] at h
    by_cases e : j = i
    · rw [e]; exact h.1
    · exact okFrom_at h.2 (by omega) (by omega)
/-- How many calls stand ahead of those of one friend. -/
def Tn (n : Nat) : Nat → Nat
  | 0 => 0
  | x + 1 => Tn n x + (n - 1 - x)
theorem Tn_mono (n : Nat) : ∀ {x y : Nat}, x ≤ y → Tn n x ≤ Tn n y := by
  intro x y h
  induction h with
  | refl => exact Nat.le_refl _
  | step _ ih => exact Nat.le_trans ih (by simp [Tn])
theorem Tn_all : ∀ n ∈ List.range 11, Tn n n = n * (n - 1) / 2 := by decide
theorem len_bound (a : Int) (h1 : 1 ≤ a) (h10 : a ≤ 10) (l : List S40) (h : okFrom a l 0 l.length = true) : (l.length : Int) ≤ (Int.tdiv (a * (a - 1)) 2) := by
  obtain ⟨n, rfl⟩ := Int.eq_ofNat_of_zero_le (show 0 ≤ a by omega)
  have key : ∀ j : Nat, j < l.length → j ≤ Tn n (rd_T40 l (j : Int)).f0.toNat + ((rd_T40 l (j : Int)).f1.toNat - (rd_T40 l (j : Int)).f0.toNat - 1) := by
    intro j
    induction j with
    | zero => intro _; omega
    | succ j ih =>
      intro hj
      have ih := ih (by omega)
      have o1 := okFrom_at h (Nat.zero_le j) (by omega)
      have o2 := okFrom_at h (Nat.zero_le (j + 1)) (by omega)
      simp only [okP, isC, ltC, Bool.and_eq_true, Bool.or_eq_true, decide_eq_true_eq] at o1 o2
      rw [show (((j + 1 : Nat) : Int) - 1) = (j : Int) by omega] at o2
      generalize rd_T40 l ((j : Nat) : Int) = c at *
      generalize rd_T40 l ((j + 1 : Nat) : Int) = e at *
      obtain ⟨⟨c0, c1, c2⟩, _⟩ := o1
      obtain ⟨⟨e0, e1, e2⟩, o3⟩ := o2
      rcases o3 with o3 | o3 | ⟨o3, o4⟩
      · omega
      · have m := Tn_mono n (x := c.f0.toNat + 1) (y := e.f0.toNat) (by omega)
        simp only [Tn] at m
        omega
      · have : c.f0.toNat = e.f0.toNat := by omega
        rw [← this]
        omega
  have hn := Tn_all n (by rw [List.mem_range]; omega)
  have hb : ((n * (n - 1) / 2 : Nat) : Int) = Int.tdiv ((n : Int) * ((n : Int) - 1)) 2 := by
    have hn' : n ∈ List.range 11 := by rw [List.mem_range]; omega
    have hall : ∀ n ∈ List.range 11, 1 ≤ n → ((n * (n - 1) / 2 : Nat) : Int) = Int.tdiv ((n : Int) * ((n : Int) - 1)) 2 := by decide
    exact hall n hn' (by omega)
  rw [← hb]
  by_cases hl : l.length = 0
  · omega
  · have hk := key (l.length - 1) (by omega)
    have o := okFrom_at h (Nat.zero_le (l.length - 1)) (by omega)
    simp only [okP, isC, Bool.and_eq_true, decide_eq_true_eq] at o
    generalize rd_T40 l ((l.length - 1 : Nat) : Int) = c at *
    obtain ⟨⟨c0, c1, c2⟩, _⟩ := o
    have m := Tn_mono n (x := c.f0.toNat + 1) (y := n) (by omega)
    simp only [Tn] at m
    omega
/-- Are they pairs? -/
def areP (a : Int) (l : List S40) : Bool := okFrom a l 0 l.length && decide (1 ≤ a ∧ a ≤ 10)
theorem arePairs_f (a : Int) (l : List S40) (hn : l.length ≤ 1048576) {k : Nat} (hk : 1048600 < k) : impl_ArePairs.f k a l = some (areP a l) :=
  arePairs_l0 a l hn l.length 0 k (by omega) (by omega)
theorem neGood_f (a : Int) (l : List S40) (hn : l.length ≤ 1048576) {k : Nat} (hk : 1048600 < k) : spec_neGood.f k a l = some (areP a l) := by
  obtain ⟨k, rfl⟩ : ∃ q, k = q + 1 := ⟨k - 1, by omega⟩
  unfold spec_neGood.f areP
  rw [friends_f]
  simp only [Option.bind_some]
  by_cases h : 1 ≤ a ∧ a ≤ 10
  · rw [if_pos (decide_eq_true h), w64 (x := a - 1) (by omega) (by omega)]
    have hm : a * (a - 1) ≤ 90 ∧ 0 ≤ a * (a - 1) := by
      have : a = 1 ∨ a = 2 ∨ a = 3 ∨ a = 4 ∨ a = 5 ∨ a = 6 ∨ a = 7 ∨ a = 8 ∨ a = 9 ∨ a = 10 := by omega
      rcases this with rfl | rfl | rfl | rfl | rfl | rfl | rfl | rfl | rfl | rfl <;> decide
    rw [w64 (x := a * (a - 1)) (by omega) (by omega)]
    have ht : Int.tdiv (a * (a - 1)) 2 ≤ 90 ∧ 0 ≤ Int.tdiv (a * (a - 1)) 2 := by
      generalize a * (a - 1) = z at hm
      rw [Int.tdiv_eq_ediv_of_nonneg hm.2]
      omega
    rw [w64 (x := Int.tdiv (a * (a - 1)) 2) (by omega) (by omega)]
    simp only [spec_neGood.j0]
    by_cases hl : (l.length : Int) > Int.tdiv (a * (a - 1)) 2
    · rw [if_pos (decide_eq_true hl)]
      have : okFrom a l 0 l.length = false := by
        cases ho : okFrom a l 0 l.length
        · rfl
        · have := len_bound a h.1 h.2 l ho; omega
      rw [this]; rfl
    · rw [if_neg (by simpa using hl)]
      have := neGood_l0 a h.1 h.2 l hn l.length 0 k (by omega) (by omega)
      rw [show (0 : Int) = ((0 : Nat) : Int) from rfl, this, decide_eq_true h]
      simp
  · rw [if_neg (by simpa using h)]
    simp only [spec_neGood.j0, if_true]
    rw [decide_eq_false h]; simp
/-- May these two call each other? -/
def hasP (l : List S40) (x y : Int) : Bool := l.any fun c => c.f0 == mn x y && (c.f1 == mx x y)
theorem caPair_f (x y : Int) : spec_caPair.f x y = some (mn x y, mx x y) := by
  unfold spec_caPair.f spec_l1Least.f spec_l1Most.f mn mx
  by_cases h : x < y
  · rw [if_pos h, if_neg (by omega), if_neg (by omega), if_pos h]; rfl
  · by_cases h2 : x > y
    · rw [if_neg h, if_pos h2, if_pos (by omega), if_neg h]; rfl
    · rw [if_neg h, if_neg h2, if_neg (by omega), if_neg h]
      simp; omega
theorem neIs_l0 (x y : Int) (l : List S40) (hn : l.length ≤ 1048576) : ∀ (d i k : Nat), i + d = l.length → d < k → spec_neIs.l0 k x y l (l.length : Int) (i : Int) = some ((l.drop i).any fun c => c.f0 == mn x y && (c.f1 == mx x y))
  | 0, i, k, hi, hk => by
    obtain ⟨k, rfl⟩ : ∃ q, k = q + 1 := ⟨k - 1, by omega⟩
    simp only [spec_neIs.l0]
    rw [if_neg (by omega), List.drop_eq_nil_of_le (by omega)]
    rfl
  | d + 1, i, k, hi, hk => by
    obtain ⟨k, rfl⟩ : ∃ q, k = q + 1 := ⟨k - 1, by omega⟩
    have ih := neIs_l0 x y l hn d (i + 1) k (by omega) (by omega)
    have ha : i < l.length := by omega
    simp only [spec_neIs.l0]
    rw [if_pos (by omega), if_pos (by omega), if_pos (by omega), caPair_f, up64 ha (by omega), ih, rdCall1 ha, List.drop_eq_getElem_cons ha, List.any_cons]
    simp only [Option.bind_some]
    cases (l[i].f0 == mn x y && (l[i].f1 == mx x y)) <;> simp
theorem neIs_f (x y : Int) (l : List S40) (hn : l.length ≤ 1048576) {k : Nat} (hk : l.length < k) : spec_neIs.f k l x y = some (hasP l x y) := by
  have := neIs_l0 x y l hn l.length 0 k (by omega) hk
  simpa [spec_neIs.f, hasP] using this
theorem callIx_l0 (u v : Int) (l : List S40) (hn : l.length ≤ 1048576) : ∀ (d i k : Nat), i + d = l.length → d < k → ∃ r : Int, impl_Call_93.l0 k l (l.length : Int) (i : Int) u v = some r ∧ decide (r ≥ 0) = (l.drop i).any fun c => c.f0 == u && (c.f1 == v)
  | 0, i, k, hi, hk => by
    obtain ⟨k, rfl⟩ : ∃ q, k = q + 1 := ⟨k - 1, by omega⟩
    simp only [impl_Call_93.l0]
    rw [if_neg (by omega), List.drop_eq_nil_of_le (by omega)]
    exact ⟨-1, rfl, rfl⟩
  | d + 1, i, k, hi, hk => by
    obtain ⟨k, rfl⟩ : ∃ q, k = q + 1 := ⟨k - 1, by omega⟩
    obtain ⟨r, e1, e2⟩ := callIx_l0 u v l hn d (i + 1) k (by omega) (by omega)
    have ha : i < l.length := by omega
    simp only [impl_Call_93.l0]
    rw [if_pos (by omega), if_pos (by omega), if_pos (by omega), up64 ha (by omega), rdCall1 ha, List.drop_eq_getElem_cons ha]
    by_cases h : (u == l[i].f0 && (v == l[i].f1)) = true
    · rw [if_pos h]
      refine ⟨_, rfl, ?_⟩
      simp only [Bool.and_eq_true, beq_iff_eq] at h
      have hb : (l[i].f0 == u && (l[i].f1 == v)) = true := by simp [h.1, h.2]
      rw [List.any_cons, hb]
      simp
    · rw [if_neg h]
      refine ⟨r, e1, ?_⟩
      rw [e2, List.any_cons]
      have : (l[i].f0 == u && (l[i].f1 == v)) = false := by
        rw [Bool.eq_false_iff]
        intro h2
        simp only [Bool.and_eq_true, beq_iff_eq] at h2
        exact h (by simp [h2.1, h2.2])
      rw [this]; simp
theorem isPair_f (x y : Int) (l : List S40) (hg : ∀ c ∈ l, c.f0 < c.f1) (hn : l.length ≤ 1048576) {k : Nat} (hk : l.length < k) : impl_isPair.f k l x y = some (hasP l x y) := by
  unfold impl_isPair.f
  by_cases h : x = y
  · rw [if_pos h]
    have : hasP l x y = false := by
      rw [Bool.eq_false_iff]
      intro h2
      obtain ⟨c, hc, h3⟩ := List.any_eq_true.1 h2
      simp only [Bool.and_eq_true, beq_iff_eq] at h3
      have := hg c hc
      unfold mn mx at h3
      subst h
      simp at h3
      omega
    rw [this]
  · rw [if_neg h]
    obtain ⟨r, e1, e2⟩ := callIx_l0 (mn x y) (mx x y) l hn l.length 0 k (by omega) hk
    unfold impl_call.f impl_Call_61.f impl_Call_93.f
    simp only [Option.bind_some]
    have e3 : impl_Call_93.l0 k l (l.length : Int) 0 (mn x y) (mx x y) = some r := e1
    rw [e3]
    simp only [Option.bind_some, e2, List.drop_zero]
    rfl
theorem areP_good {a : Int} {l : List S40} (h : areP a l = true) : (1 ≤ a ∧ a ≤ 10) ∧ (∀ c ∈ l, 0 ≤ c.f0 ∧ c.f0 < c.f1 ∧ c.f1 < a) ∧ l.length ≤ 45 := by
  unfold areP at h
  rw [Bool.and_eq_true] at h
  have h2 := of_decide_eq_true h.2
  refine ⟨h2, fun c hc => ?_, ?_⟩
  · obtain ⟨i, hi, rfl⟩ := List.mem_iff_getElem.1 hc
    have := okFrom_at h.1 (Nat.zero_le i) (by omega)
    rw [okP, rdCall1 hi] at this
    simp only [isC, Bool.and_eq_true, decide_eq_true_eq] at this
    exact this.1
  · have := len_bound a h2.1 h2.2 l h.1
    have hm : Int.tdiv (a * (a - 1)) 2 ≤ 45 := by
      have : a = 1 ∨ a = 2 ∨ a = 3 ∨ a = 4 ∨ a = 5 ∨ a = 6 ∨ a = 7 ∨ a = 8 ∨ a = 9 ∨ a = 10 := by omega
      rcases this with rfl | rfl | rfl | rfl | rfl | rfl | rfl | rfl | rfl | rfl <;> decide
    omega
/-- How many are not reached yet. -/
def negs (x : List Int) : Nat := (x.filter fun v => decide (v < 0)).length
theorem negs_set : ∀ (x : List Int) (i : Nat) (v : Int), i < x.length → x.getD i 0 < 0 → 0 ≤ v → negs (x.set i v) + 1 = negs x
  | [], i, v, h, _, _ => by simp at h
  | y :: ys, 0, v, h, hy, hv => by
    simp only [List.getD_cons_zero] at hy
    simp only [List.set_cons_zero, negs, List.filter_cons]
    rw [if_neg (by simp; omega), if_pos (by simpa using hy)]
    simp
  | y :: ys, i + 1, v, h, hy, hv => by
    have ih := negs_set ys i v (by simpa using h) (by simpa using hy) hv
    simp only [List.set_cons_succ, negs, List.filter_cons] at ih ⊢
    split
    · simp only [List.length_cons]; omega
    · exact ih
theorem negs_pos : ∀ (x : List Int) (i : Nat), i < x.length → x.getD i 0 < 0 → 0 < negs x
  | [], i, h, _ => by simp at h
  | y :: ys, 0, h, hy => by
    simp only [List.getD_cons_zero] at hy
    simp only [negs, List.filter_cons]
    rw [if_pos (by simpa using hy)]
    simp
  | y :: ys, i + 1, h, hy => by
    have ih := negs_pos ys i (by simpa using h) (by simpa using hy)
    simp only [negs, List.filter_cons] at ih ⊢
    split
    · simp only [List.length_cons]; omega
    · exact ih
/-- What holds of the distances and the list of those who are reached, at each step. -/
structure Far (n : Nat) (x7 x9 : List Int) : Prop where
  len : x7.length = n
  sum : negs x7 + x9.length = n
  mem : ∀ q ∈ x9, 0 ≤ q ∧ q < (n : Int) ∧ 0 ≤ rd x7 q
  top : ∀ q : Int, 0 ≤ q → q < (n : Int) → rd x7 q ≤ (x9.length : Int)
theorem rdset_eq {xs : List Int} {i : Int} {v : Int} (h0 : 0 ≤ i) (h1 : i < (xs.length : Int)) : rd (xs.set i.toNat v) i = v := by
  unfold rd
  have : i.toNat < xs.length := by omega
  simp [List.getD_eq_getElem?_getD, List.getElem?_set, this]
theorem rdset_ne {xs : List Int} {i j : Int} {v : Int} (h0 : 0 ≤ i) (hj : 0 ≤ j) (h : i ≠ j) : rd (xs.set i.toNat v) j = rd xs j := by
  unfold rd
  have : i.toNat ≠ j.toNat := by omega
  simp [List.getD_eq_getElem?_getD, List.getElem?_set, this]
theorem Far.step {n : Nat} {x7 x9 : List Int} (F : Far n x7 x9) (hn : n ≤ 10) {q : Int} (hq : q ∈ x9) {i : Nat} (hi : i < n) (hneg : rd x7 (i : Int) < 0) : Far n (x7.set i (rd x7 q + 1)) (x9 ++ [(i : Int)]) := by
  obtain ⟨q0, q1, q2⟩ := F.mem q hq
  have hl := F.len
  have hs := F.sum
  have hg : x7.getD i 0 < 0 := hneg
  have ht := F.top q q0 q1
  refine ⟨by simp [hl], ?_, fun p hp => ?_, fun p p0 p1 => ?_⟩
  · have := negs_set x7 i (rd x7 q + 1) (by omega) hg (by omega)
    rw [List.length_append]; simp; omega
  · rw [List.mem_append, List.mem_singleton] at hp
    rcases hp with hp | rfl
    · obtain ⟨p0, p1, p2⟩ := F.mem p hp
      have hne : (i : Int) ≠ p := fun e => by rw [e] at hneg; omega
      have := rdset_ne (xs := x7) (v := rd x7 q + 1) (show (0 : Int) ≤ (i : Int) by omega) p0 hne
      rw [Int.toNat_natCast] at this
      exact ⟨p0, p1, by omega⟩
    · have := rdset_eq (xs := x7) (v := rd x7 q + 1) (show (0 : Int) ≤ (i : Int) by omega) (by omega)
      rw [Int.toNat_natCast] at this
      exact ⟨by omega, by omega, by omega⟩
  · rw [List.length_append, List.length_singleton]
    by_cases e : (i : Int) = p
    · subst e
      have := rdset_eq (xs := x7) (v := rd x7 q + 1) (show (0 : Int) ≤ (i : Int) by omega) (by omega)
      rw [Int.toNat_natCast] at this
      omega
    · have h2 := rdset_ne (xs := x7) (v := rd x7 q + 1) (show (0 : Int) ≤ (i : Int) by omega) p0 e
      rw [Int.toNat_natCast] at h2
      have := F.top p p0 p1
      omega
theorem upJ {j : Nat} (h : j ≤ 1000) : wrap64 ((j : Int) + 1) = ((j + 1 : Nat) : Int) := by rw [w64 (by omega) (by omega)]; omega
theorem far_in (n : Nat) (hn : n ≤ 10) (l : List S40) (hg : ∀ c ∈ l, c.f0 < c.f1) (hl : l.length ≤ 45) (c : Nat) (B : Nat) (hB : 100 ≤ B) (H : ∀ x7 x9, Far n x7 x9 → c + 1 ≤ x9.length → ∃ r : List Int, r.length = n ∧ (∀ q : Int, 0 ≤ q → q < (n : Int) → rd r q ≤ 10) ∧ (∀ k, B ≤ k → spec_neFar.l1 k l x7 x9 ((c + 1 : Nat) : Int) = some r) ∧ (∀ k, B ≤ k → impl_distances.l0 k (n : Int) l x7 x9 ((c + 1 : Nat) : Int) = some r)) : ∀ (dd j : Nat) (x7 x9 : List Int), j + dd = n → Far n x7 x9 → c < x9.length → ∃ r : List Int, r.length = n ∧ (∀ q : Int, 0 ≤ q → q < (n : Int) → rd r q ≤ 10) ∧ (∀ k, B + dd < k → spec_neFar.l2 k l x7 x9 (c : Int) (n : Int) (j : Int) = some r) ∧ (∀ k, B + dd < k → impl_distances.l1 k (n : Int) l x7 x9 (c : Int) (n : Int) (j : Int) = some r)
  | 0, j, x7, x9, hj, F, hc => by
    obtain ⟨r, h1, h0, hs, hi⟩ := H x7 x9 F hc
    have hle : x9.length ≤ 10 := by have := F.sum; omega
    refine ⟨r, h1, h0, fun k hk => ?_, fun k hk => ?_⟩
    · obtain ⟨k, rfl⟩ : ∃ q, k = q + 1 := ⟨k - 1, by omega⟩
      simp only [spec_neFar.l2]
      rw [if_neg (by omega), upJ (j := c) (by omega)]
      exact hs k (by omega)
    · obtain ⟨k, rfl⟩ : ∃ q, k = q + 1 := ⟨k - 1, by omega⟩
      simp only [impl_distances.l1]
      rw [if_neg (by omega), upJ (j := c) (by omega)]
      exact hi k (by omega)
  | dd + 1, j, x7, x9, hj, F, hc => by
    have hlen := F.len
    have hsum := F.sum
    have hle : x9.length ≤ 10 := by omega
    have hq : rd x9 (c : Int) ∈ x9 := by rw [rd_lt hc]; exact List.getElem_mem hc
    obtain ⟨q0, q1, q2⟩ := F.mem _ hq
    have ht := F.top _ q0 q1
    by_cases hneg : rd x7 (j : Int) < 0
    · by_cases hp : hasP l (rd x9 (c : Int)) (j : Int) = true
      · obtain ⟨r, h1, h0, hs, hi⟩ := far_in n hn l hg hl c B hB H dd (j + 1) _ _ (by omega) (F.step hn hq (i := j) (by omega) hneg) (by rw [List.length_append]; omega)
        refine ⟨r, h1, h0, fun k hk => ?_, fun k hk => ?_⟩
        · obtain ⟨k, rfl⟩ : ∃ q, k = q + 1 := ⟨k - 1, by omega⟩
          simp only [spec_neFar.l2]
          rw [if_pos (by omega), if_pos (by omega), if_pos (by omega), if_pos hneg, if_pos (by omega), if_pos (by omega), neIs_f _ _ l (by omega) (by omega)]
          simp only [Option.bind_some]
          rw [if_pos hp, if_pos q0, if_pos (by omega), if_pos (by omega), upJ (j := j) (by omega), w64 (x := rd x7 (rd x9 (c : Int)) + 1) (by omega) (by omega), Int.toNat_natCast]
          exact hs k (by omega)
        · obtain ⟨k, rfl⟩ : ∃ q, k = q + 1 := ⟨k - 1, by omega⟩
          simp only [impl_distances.l1]
          rw [if_pos (by omega), if_pos (by omega), if_pos (by omega), if_pos hneg, if_pos (by omega), if_pos (by omega), isPair_f _ _ l hg (by omega) (by omega)]
          simp only [Option.bind_some]
          rw [if_pos hp, if_pos q0, if_pos (by omega), if_pos (by omega), upJ (j := j) (by omega), w64 (x := rd x7 (rd x9 (c : Int)) + 1) (by omega) (by omega), Int.toNat_natCast]
          exact hi k (by omega)
      · obtain ⟨r, h1, h0, hs, hi⟩ := far_in n hn l hg hl c B hB H dd (j + 1) x7 x9 (by omega) F hc
        refine ⟨r, h1, h0, fun k hk => ?_, fun k hk => ?_⟩
        · obtain ⟨k, rfl⟩ : ∃ q, k = q + 1 := ⟨k - 1, by omega⟩
          simp only [spec_neFar.l2]
          rw [if_pos (by omega), if_pos (by omega), if_pos (by omega), if_pos hneg, if_pos (by omega), if_pos (by omega), neIs_f _ _ l (by omega) (by omega)]
          simp only [Option.bind_some]
          rw [if_neg hp, upJ (j := j) (by omega)]
          exact hs k (by omega)
        · obtain ⟨k, rfl⟩ : ∃ q, k = q + 1 := ⟨k - 1, by omega⟩
          simp only [impl_distances.l1]
          rw [if_pos (by omega), if_pos (by omega), if_pos (by omega), if_pos hneg, if_pos (by omega), if_pos (by omega), isPair_f _ _ l hg (by omega) (by omega)]
          simp only [Option.bind_some]
          rw [if_neg hp, upJ (j := j) (by omega)]
          exact hi k (by omega)
    · obtain ⟨r, h1, h0, hs, hi⟩ := far_in n hn l hg hl c B hB H dd (j + 1) x7 x9 (by omega) F hc
      refine ⟨r, h1, h0, fun k hk => ?_, fun k hk => ?_⟩
      · obtain ⟨k, rfl⟩ : ∃ q, k = q + 1 := ⟨k - 1, by omega⟩
        simp only [spec_neFar.l2]
        rw [if_pos (by omega), if_pos (by omega), if_pos (by omega), if_neg hneg, upJ (j := j) (by omega)]
        exact hs k (by omega)
      · obtain ⟨k, rfl⟩ : ∃ q, k = q + 1 := ⟨k - 1, by omega⟩
        simp only [impl_distances.l1]
        rw [if_pos (by omega), if_pos (by omega), if_pos (by omega), if_neg hneg, upJ (j := j) (by omega)]
        exact hi k (by omega)
theorem far_out (n : Nat) (hn : n ≤ 10) (l : List S40) (hg : ∀ c ∈ l, c.f0 < c.f1) (hl : l.length ≤ 45) : ∀ (m c : Nat) (x7 x9 : List Int), c + m = n → Far n x7 x9 → c ≤ x9.length → ∃ r : List Int, r.length = n ∧ (∀ q : Int, 0 ≤ q → q < (n : Int) → rd r q ≤ 10) ∧ (∀ k, 100 + 20 * m ≤ k → spec_neFar.l1 k l x7 x9 (c : Int) = some r) ∧ (∀ k, 100 + 20 * m ≤ k → impl_distances.l0 k (n : Int) l x7 x9 (c : Int) = some r)
  | m, c, x7, x9, hm, F, hc => by
    have hsum := F.sum
    have hlen := F.len
    by_cases h : c < x9.length
    · obtain ⟨m, rfl⟩ : ∃ q, m = q + 1 := ⟨m - 1, by omega⟩
      obtain ⟨r, h1, h0, hs, hi⟩ := far_in n hn l hg hl c (100 + 20 * m) (by omega) (fun y7 y9 G hy => far_out n hn l hg hl m (c + 1) y7 y9 (by omega) G hy) n 0 x7 x9 (by omega) F h
      refine ⟨r, h1, h0, fun k hk => ?_, fun k hk => ?_⟩
      · obtain ⟨k, rfl⟩ : ∃ q, k = q + 1 := ⟨k - 1, by omega⟩
        simp only [spec_neFar.l1]
        rw [if_pos (by omega), hlen]
        exact hs k (by omega)
      · obtain ⟨k, rfl⟩ : ∃ q, k = q + 1 := ⟨k - 1, by omega⟩
        simp only [impl_distances.l0]
        rw [if_pos (by omega)]
        exact hi k (by omega)
    · refine ⟨x7, hlen, fun q q0 q1 => by have := F.top q q0 q1; omega, fun k hk => ?_, fun k hk => ?_⟩
      · obtain ⟨k, rfl⟩ : ∃ q, k = q + 1 := ⟨k - 1, by omega⟩
        simp only [spec_neFar.l1]
        rw [if_neg (by omega)]
      · obtain ⟨k, rfl⟩ : ∃ q, k = q + 1 := ⟨k - 1, by omega⟩
        simp only [impl_distances.l0]
        rw [if_neg (by omega)]
theorem far_fill (l : List S40) (n : Nat) (hn : n ≤ 10) (s : Int) (h0 : 0 ≤ s) (h1 : s < (n : Int)) (r : List Int) (B : Nat) (H : ∀ k, B ≤ k → spec_neFar.l1 k l ((List.replicate n (-1)).set s.toNat 0) [s] 0 = some r) : ∀ (dd i k : Nat), i + dd = n → B + dd < k → spec_neFar.l0 k l s (List.replicate i (-1) ++ List.replicate dd 0) (n : Int) (i : Int) = some r
  | 0, i, k, hi, hk => by
    obtain ⟨k, rfl⟩ : ∃ q, k = q + 1 := ⟨k - 1, by omega⟩
    simp only [spec_neFar.l0]
    have e : i = n := by omega
    subst e
    rw [if_neg (by omega), if_pos h0, if_pos (by simp; omega)]
    simpa using H k (by omega)
  | dd + 1, i, k, hi, hk => by
    obtain ⟨k, rfl⟩ : ∃ q, k = q + 1 := ⟨k - 1, by omega⟩
    have ih := far_fill l n hn s h0 h1 r B H dd (i + 1) k (by omega) (by omega)
    simp only [spec_neFar.l0]
    rw [if_pos (by omega), if_pos (by omega), if_pos (by simp; omega), w64 (x := (i : Int) + 1) (by omega) (by omega)]
    have e : (List.replicate i (-1 : Int) ++ List.replicate (dd + 1) 0).set ((i : Nat) : Int).toNat (-1) = List.replicate (i + 1) (-1) ++ List.replicate dd 0 := by
      rw [Int.toNat_natCast, List.set_append_right _ _ (by simp), List.length_replicate, Nat.sub_self, List.replicate_succ (n := dd), List.set_cons_zero, List.replicate_succ' (n := i)]
      simp
    rw [e]
    exact ih
theorem negs_rep : ∀ n : Nat, negs (List.replicate n (-1)) = n
  | 0 => rfl
  | n + 1 => by
    have ih := negs_rep n
    simp only [negs, List.replicate_succ, List.filter_cons] at ih ⊢
    rw [if_pos (by decide), List.length_cons, ih]
theorem far_begin (n : Nat) (hn : n ≤ 10) (s : Int) (h0 : 0 ≤ s) (h1 : s < (n : Int)) : Far n ((List.replicate n (-1)).set s.toNat 0) [s] := by
  have hs : s.toNat < n := by omega
  have hg : (List.replicate n (-1 : Int)).getD s.toNat 0 < 0 := by
    rw [List.getD_eq_getElem?_getD, List.getElem?_replicate, if_pos hs]; decide
  refine ⟨by simp, ?_, fun q hq => ?_, fun q q0 q1 => ?_⟩
  · have := negs_set (List.replicate n (-1)) s.toNat 0 (by simpa using hs) hg (by omega)
    rw [negs_rep] at this
    simp; omega
  · rw [List.mem_singleton] at hq
    subst hq
    have := rdset_eq (xs := List.replicate n (-1)) (v := 0) h0 (by simpa using h1)
    exact ⟨h0, h1, by omega⟩
  · by_cases e : s = q
    · subst e
      have := rdset_eq (xs := List.replicate n (-1)) (v := 0) h0 (by simpa using h1)
      rw [this]; simp
    · have := rdset_ne (xs := List.replicate n (-1)) (v := 0) h0 q0 e
      rw [this]
      have hr : rd (List.replicate n (-1)) q = -1 := by
        unfold rd
        rw [List.getD_eq_getElem?_getD, List.getElem?_replicate, if_pos (by omega)]; rfl
      rw [hr]; simp
/-- The distances from one: the two tellings agree. -/
theorem far_both (a : Int) (h1 : 1 ≤ a) (h10 : a ≤ 10) (l : List S40) (hg : ∀ c ∈ l, c.f0 < c.f1) (hl : l.length ≤ 45) (s : Int) (s0 : 0 ≤ s) (s1 : s < a) : ∃ r : List Int, (r.length : Int) = a ∧ (∀ q : Int, 0 ≤ q → q < a → rd r q ≤ 10) ∧ (∀ k, 500 ≤ k → spec_neFar.f k a l s = some r) ∧ (∀ k, 500 ≤ k → impl_distances.f k a l s = some r) := by
  obtain ⟨n, rfl⟩ := Int.eq_ofNat_of_zero_le (show 0 ≤ a by omega)
  obtain ⟨r, e1, e2, hs, hi⟩ := far_out n (by omega) l hg hl n 0 _ _ (by omega) (far_begin n (by omega) s s0 s1) (by simp)
  refine ⟨r, by omega, e2, fun k hk => ?_, fun k hk => ?_⟩
  · unfold spec_neFar.f
    rw [if_pos (by omega), if_pos (by omega)]
    have := far_fill l n (by omega) s s0 s1 r (100 + 20 * n) hs n 0 k (by omega) (by omega)
    simpa using this
  · unfold impl_distances.f slices_Repeat_int_int.f
    rw [if_pos ⟨rfl, by omega, by omega⟩]
    simp only [Option.bind_some]
    rw [if_pos s0, if_pos (by simp; omega)]
    have := hi k (by omega)
    simpa [rd] using this
theorem has_l0 (x : Int) (l : List Int) (hn : l.length ≤ 1000) : ∀ (d i k : Nat), i + d = l.length → d < k → spec_l1Has.l0 k x l (l.length : Int) (i : Int) = some (decide (x ∈ l.drop i))
  | 0, i, k, hi, hk => by
    obtain ⟨k, rfl⟩ : ∃ q, k = q + 1 := ⟨k - 1, by omega⟩
    simp only [spec_l1Has.l0]
    rw [if_neg (by omega), List.drop_eq_nil_of_le (by omega)]
    simp
  | d + 1, i, k, hi, hk => by
    obtain ⟨k, rfl⟩ : ∃ q, k = q + 1 := ⟨k - 1, by omega⟩
    have ih := has_l0 x l hn d (i + 1) k (by omega) (by omega)
    have ha : i < l.length := by omega
    simp only [spec_l1Has.l0]
    rw [if_pos (by omega), if_pos (by omega), if_pos (by omega), rd_lt ha, up64 ha (by omega), ih, List.drop_eq_getElem_cons ha]
    by_cases e : l[i] = x
    · rw [if_pos e]; simp [e]
    · rw [if_neg e]
      congr 1
      apply decide_eq_decide.mpr
      rw [List.mem_cons]
      exact ⟨.inr, fun h => h.resolve_left (fun z => e z.symm)⟩
theorem has_f (x : Int) (l : List Int) (hn : l.length ≤ 1000) {k : Nat} (hk : l.length < k) : spec_l1Has.f k l x = some (decide (x ∈ l)) := by
  have := has_l0 x l hn l.length 0 k (by omega) hk
  simpa [spec_l1Has.f] using this
theorem sq_l3 (n : Nat) (hn : n ≤ 10) (l : List S40) (hg : ∀ c ∈ l, c.f0 < c.f1) (hl : l.length ≤ 45) (u v y : Nat) (hy : y ≤ 10) (B L : Nat) (hB : 100 ≤ B) (hL : L ≤ 100000) (H : ∀ x5 : List (List Int), x5.length ≤ L → ∃ r : List (List Int), r.length ≤ 100000 ∧ (∀ k, B ≤ k → spec_neSquares.l2 k (n : Int) l x5 (u : Int) (v : Int) ((y + 1 : Nat) : Int) = some r) ∧ (∀ k, B ≤ k → impl_squares.l2 k (n : Int) l x5 (u : Int) (v : Int) ((y + 1 : Nat) : Int) (n : Int) (u : Int) = some r)) : ∀ (dd z : Nat) (x5 : List (List Int)), z + dd = n → x5.length + dd ≤ L → ∃ r : List (List Int), r.length ≤ 100000 ∧ (∀ k, B + dd < k → spec_neSquares.l3 k (n : Int) l x5 (u : Int) (v : Int) (y : Int) (z : Int) = some r) ∧ (∀ k, B + dd < k → impl_squares.l3 k (n : Int) l x5 (u : Int) (v : Int) (y : Int) (z : Int) (n : Int) (u : Int) = some r)
  | 0, z, x5, hz, hx => by
    obtain ⟨r, h1, hs, hi⟩ := H x5 (by omega)
    refine ⟨r, h1, fun k hk => ?_, fun k hk => ?_⟩
    · obtain ⟨k, rfl⟩ : ∃ q, k = q + 1 := ⟨k - 1, by omega⟩
      simp only [spec_neSquares.l3]
      rw [if_neg (by omega), upJ (j := y) (by omega)]
      exact hs k (by omega)
    · obtain ⟨k, rfl⟩ : ∃ q, k = q + 1 := ⟨k - 1, by omega⟩
      simp only [impl_squares.l3]
      rw [if_neg (by omega), upJ (j := y) (by omega)]
      exact hi k (by omega)
  | dd + 1, z, x5, hz, hx => by
    obtain ⟨r, h1, hs, hi⟩ := sq_l3 n hn l hg hl u v y hy B L hB hL H dd (z + 1) x5 (by omega) (by omega)
    obtain ⟨r', h1', hs', hi'⟩ := sq_l3 n hn l hg hl u v y hy B L hB hL H dd (z + 1) (x5 ++ [[(u : Int), v, y, z]]) (by omega) (by rw [List.length_append, List.length_singleton]; omega)
    by_cases e1 : (y : Int) = (v : Int)
    · refine ⟨r, h1, fun k hk => ?_, fun k hk => ?_⟩
      · obtain ⟨k, rfl⟩ : ∃ q, k = q + 1 := ⟨k - 1, by omega⟩
        simp only [spec_neSquares.l3]
        rw [if_pos (by omega), if_pos e1, upJ (j := z) (by omega)]
        exact hs k (by omega)
      · obtain ⟨k, rfl⟩ : ∃ q, k = q + 1 := ⟨k - 1, by omega⟩
        simp only [impl_squares.l3]
        rw [if_pos (by omega), if_pos e1, upJ (j := z) (by omega)]
        exact hi k (by omega)
    · by_cases e2 : (y : Int) = (z : Int)
      · refine ⟨r, h1, fun k hk => ?_, fun k hk => ?_⟩
        · obtain ⟨k, rfl⟩ : ∃ q, k = q + 1 := ⟨k - 1, by omega⟩
          simp only [spec_neSquares.l3]
          rw [if_pos (by omega), if_neg e1, if_pos e2, upJ (j := z) (by omega)]
          exact hs k (by omega)
        · obtain ⟨k, rfl⟩ : ∃ q, k = q + 1 := ⟨k - 1, by omega⟩
          simp only [impl_squares.l3]
          rw [if_pos (by omega), if_neg e1, if_pos e2, upJ (j := z) (by omega)]
          exact hi k (by omega)
      · have u1 := upJ (j := z) (by omega)
        have a1 : ∀ (p q : Int) (k : Nat), 60 ≤ k → spec_neIs.f k l p q = some (hasP l p q) := fun p q k hk => neIs_f p q l (by omega) (by omega)
        have a2 : ∀ (p q : Int) (k : Nat), 60 ≤ k → impl_isPair.f k l p q = some (hasP l p q) := fun p q k hk => isPair_f p q l hg (by omega) (by omega)
        have hlen : x5.length < 5864062014805 := by omega
        by_cases hh : (hasP l u v && (hasP l v y && (hasP l y z && hasP l z u))) = true
        · simp only [Bool.and_eq_true] at hh
          refine ⟨r', h1', fun k hk => ?_, fun k hk => ?_⟩
          · obtain ⟨k, rfl⟩ : ∃ q, k = q + 1 := ⟨k - 1, by omega⟩
            simp only [spec_neSquares.l3]
            rw [if_pos (by omega), if_neg e1, if_neg e2, a1 _ _ k (by omega), a1 _ _ k (by omega), a1 _ _ k (by omega), a1 _ _ k (by omega), hh.1, hh.2.1, hh.2.2.1, hh.2.2.2, u1]
            simp only [Option.bind_some, if_true]
            rw [if_pos hlen]
            exact hs' k (by omega)
          · obtain ⟨k, rfl⟩ : ∃ q, k = q + 1 := ⟨k - 1, by omega⟩
            simp only [impl_squares.l3]
            rw [if_pos (by omega), if_neg e1, if_neg e2, a2 _ _ k (by omega), a2 _ _ k (by omega), a2 _ _ k (by omega), a2 _ _ k (by omega), hh.1, hh.2.1, hh.2.2.1, hh.2.2.2, u1]
            simp only [Option.bind_some, if_true]
            rw [if_pos hlen]
            exact hi' k (by omega)
        · refine ⟨r, h1, fun k hk => ?_, fun k hk => ?_⟩
          · obtain ⟨k, rfl⟩ : ∃ q, k = q + 1 := ⟨k - 1, by omega⟩
            have hs := hs k (by omega)
            simp only [spec_neSquares.l3]
            rw [if_pos (by omega), if_neg e1, if_neg e2, a1 _ _ k (by omega), a1 _ _ k (by omega), a1 _ _ k (by omega), a1 _ _ k (by omega), u1]
            simp only [Option.bind_some]
            by_cases q1 : hasP l u v = true
            · by_cases q2 : hasP l v y = true
              · by_cases q3 : hasP l y z = true
                · by_cases q4 : hasP l z u = true
                  · exact absurd (by rw [q1, q2, q3, q4]; rfl) hh
                  · rw [if_pos q1, if_pos q2, if_pos q3, if_neg q4]; exact hs
                · rw [if_pos q1, if_pos q2, if_neg q3]; exact hs
              · rw [if_pos q1, if_neg q2]; exact hs
            · rw [if_neg q1]; exact hs
          · obtain ⟨k, rfl⟩ : ∃ q, k = q + 1 := ⟨k - 1, by omega⟩
            have hi := hi k (by omega)
            simp only [impl_squares.l3]
            rw [if_pos (by omega), if_neg e1, if_neg e2, a2 _ _ k (by omega), a2 _ _ k (by omega), a2 _ _ k (by omega), a2 _ _ k (by omega), u1]
            simp only [Option.bind_some]
            by_cases q1 : hasP l u v = true
            · by_cases q2 : hasP l v y = true
              · by_cases q3 : hasP l y z = true
                · by_cases q4 : hasP l z u = true
                  · exact absurd (by rw [q1, q2, q3, q4]; rfl) hh
                  · rw [if_pos q1, if_pos q2, if_pos q3, if_neg q4]; exact hi
                · rw [if_pos q1, if_pos q2, if_neg q3]; exact hi
              · rw [if_pos q1, if_neg q2]; exact hi
            · rw [if_neg q1]; exact hi
theorem sq_l2 (n : Nat) (hn : n ≤ 10) (l : List S40) (hg : ∀ c ∈ l, c.f0 < c.f1) (hl : l.length ≤ 45) (u v : Nat) (hv : v < n) (B L : Nat) (hB : 100 ≤ B) (hL : L ≤ 100000) (H : ∀ x5 : List (List Int), x5.length ≤ L → ∃ r : List (List Int), r.length ≤ 100000 ∧ (∀ k, B ≤ k → spec_neSquares.l1 k (n : Int) l x5 (u : Int) ((v + 1 : Nat) : Int) = some r) ∧ (∀ k, B ≤ k → impl_squares.l1 k (n : Int) l x5 (u : Int) ((v + 1 : Nat) : Int) (n : Int) (u : Int) = some r)) : ∀ (dd y : Nat) (x5 : List (List Int)), y + dd = n → x5.length + 10 * dd ≤ L → ∃ r : List (List Int), r.length ≤ 100000 ∧ (∀ k, B + 20 * dd < k → spec_neSquares.l2 k (n : Int) l x5 (u : Int) (v : Int) (y : Int) = some r) ∧ (∀ k, B + 20 * dd < k → impl_squares.l2 k (n : Int) l x5 (u : Int) (v : Int) (y : Int) (n : Int) (u : Int) = some r)
  | 0, y, x5, hz, hx => by
    obtain ⟨r, h1, hs, hi⟩ := H x5 (by omega)
    refine ⟨r, h1, fun k hk => ?_, fun k hk => ?_⟩
    · obtain ⟨k, rfl⟩ : ∃ q, k = q + 1 := ⟨k - 1, by omega⟩
      simp only [spec_neSquares.l2]
      rw [if_neg (by omega), upJ (j := v) (by omega)]
      exact hs k (by omega)
    · obtain ⟨k, rfl⟩ : ∃ q, k = q + 1 := ⟨k - 1, by omega⟩
      simp only [impl_squares.l2]
      rw [if_neg (by omega), upJ (j := v) (by omega)]
      exact hi k (by omega)
  | dd + 1, y, x5, hz, hx => by
    obtain ⟨r, h1, hs, hi⟩ := sq_l3 n hn l hg hl u v y (by omega) (B + 20 * dd + 1) (L - 10 * dd) (by omega) (by omega) (fun x h => by
      obtain ⟨r, h1, hs, hi⟩ := sq_l2 n hn l hg hl u v hv B L hB hL H dd (y + 1) x (by omega) (by omega)
      exact ⟨r, h1, fun k hk => hs k (by omega), fun k hk => hi k (by omega)⟩) (n - (v + 1)) (v + 1) x5 (by omega) (by omega)
    refine ⟨r, h1, fun k hk => ?_, fun k hk => ?_⟩
    · obtain ⟨k, rfl⟩ : ∃ q, k = q + 1 := ⟨k - 1, by omega⟩
      simp only [spec_neSquares.l2]
      rw [if_pos (by omega), upJ (j := v) (by omega)]
      exact hs k (by omega)
    · obtain ⟨k, rfl⟩ : ∃ q, k = q + 1 := ⟨k - 1, by omega⟩
      simp only [impl_squares.l2]
      rw [if_pos (by omega), upJ (j := v) (by omega)]
      exact hi k (by omega)
theorem sq_l1 (n : Nat) (hn : n ≤ 10) (l : List S40) (hg : ∀ c ∈ l, c.f0 < c.f1) (hl : l.length ≤ 45) (u : Nat) (hu : u < n) (B L : Nat) (hB : 100 ≤ B) (hL : L ≤ 100000) (H : ∀ x5 : List (List Int), x5.length ≤ L → ∃ r : List (List Int), r.length ≤ 100000 ∧ (∀ k, B ≤ k → spec_neSquares.l0 k (n : Int) l x5 ((u + 1 : Nat) : Int) = some r) ∧ (∀ k, B ≤ k → impl_squares.l0 k (n : Int) l x5 (n : Int) ((u + 1 : Nat) : Int) = some r)) : ∀ (dd v : Nat) (x5 : List (List Int)), v + dd = n → x5.length + 100 * dd ≤ L → ∃ r : List (List Int), r.length ≤ 100000 ∧ (∀ k, B + 300 * dd < k → spec_neSquares.l1 k (n : Int) l x5 (u : Int) (v : Int) = some r) ∧ (∀ k, B + 300 * dd < k → impl_squares.l1 k (n : Int) l x5 (u : Int) (v : Int) (n : Int) (u : Int) = some r)
  | 0, v, x5, hz, hx => by
    obtain ⟨r, h1, hs, hi⟩ := H x5 (by omega)
    refine ⟨r, h1, fun k hk => ?_, fun k hk => ?_⟩
    · obtain ⟨k, rfl⟩ : ∃ q, k = q + 1 := ⟨k - 1, by omega⟩
      simp only [spec_neSquares.l1]
      rw [if_neg (by omega), upJ (j := u) (by omega)]
      exact hs k (by omega)
    · obtain ⟨k, rfl⟩ : ∃ q, k = q + 1 := ⟨k - 1, by omega⟩
      simp only [impl_squares.l1]
      rw [if_neg (by omega), upJ (j := u) (by omega)]
      exact hi k (by omega)
  | dd + 1, v, x5, hz, hx => by
    obtain ⟨r, h1, hs, hi⟩ := sq_l2 n hn l hg hl u v (by omega) (B + 300 * dd + 1) (L - 100 * dd) (by omega) (by omega) (fun x h => by
      obtain ⟨r, h1, hs, hi⟩ := sq_l1 n hn l hg hl u hu B L hB hL H dd (v + 1) x (by omega) (by omega)
      exact ⟨r, h1, fun k hk => hs k (by omega), fun k hk => hi k (by omega)⟩) (n - (u + 1)) (u + 1) x5 (by omega) (by omega)
    refine ⟨r, h1, fun k hk => ?_, fun k hk => ?_⟩
    · obtain ⟨k, rfl⟩ : ∃ q, k = q + 1 := ⟨k - 1, by omega⟩
      simp only [spec_neSquares.l1]
      rw [if_pos (by omega), upJ (j := u) (by omega)]
      exact hs k (by omega)
    · obtain ⟨k, rfl⟩ : ∃ q, k = q + 1 := ⟨k - 1, by omega⟩
      simp only [impl_squares.l1]
      rw [if_pos (by omega), upJ (j := u) (by omega)]
      exact hi k (by omega)
theorem sq_l0 (n : Nat) (hn : n ≤ 10) (l : List S40) (hg : ∀ c ∈ l, c.f0 < c.f1) (hl : l.length ≤ 45) : ∀ (dd u : Nat) (x5 : List (List Int)), u + dd = n → x5.length + 1000 * dd ≤ 100000 → ∃ r : List (List Int), r.length ≤ 100000 ∧ (∀ k, 100 + 4000 * dd < k → spec_neSquares.l0 k (n : Int) l x5 (u : Int) = some r) ∧ (∀ k, 100 + 4000 * dd < k → impl_squares.l0 k (n : Int) l x5 (n : Int) (u : Int) = some r)
  | 0, u, x5, hz, hx => by
    refine ⟨x5, by omega, fun k hk => ?_, fun k hk => ?_⟩
    · obtain ⟨k, rfl⟩ : ∃ q, k = q + 1 := ⟨k - 1, by omega⟩
      simp only [spec_neSquares.l0]
      rw [if_neg (by omega)]
    · obtain ⟨k, rfl⟩ : ∃ q, k = q + 1 := ⟨k - 1, by omega⟩
      simp only [impl_squares.l0]
      rw [if_neg (by omega)]
  | dd + 1, u, x5, hz, hx => by
    obtain ⟨r, h1, hs, hi⟩ := sq_l1 n hn l hg hl u (by omega) (100 + 4000 * dd + 1) (100000 - 1000 * dd) (by omega) (by omega) (fun x h => by
      obtain ⟨r, h1, hs, hi⟩ := sq_l0 n hn l hg hl dd (u + 1) x (by omega) (by omega)
      exact ⟨r, h1, fun k hk => hs k (by omega), fun k hk => hi k (by omega)⟩) (n - (u + 1)) (u + 1) x5 (by omega) (by omega)
    refine ⟨r, h1, fun k hk => ?_, fun k hk => ?_⟩
    · obtain ⟨k, rfl⟩ : ∃ q, k = q + 1 := ⟨k - 1, by omega⟩
      simp only [spec_neSquares.l0]
      rw [if_pos (by omega), upJ (j := u) (by omega)]
      exact hs k (by omega)
    · obtain ⟨k, rfl⟩ : ∃ q, k = q + 1 := ⟨k - 1, by omega⟩
      simp only [impl_squares.l0]
      rw [if_pos (by omega), upJ (j := u) (by omega)]
      exact hi k (by omega)
/-- The squares of a network: the two tellings agree. -/
theorem sq_both (a : Int) (h1 : 1 ≤ a) (h10 : a ≤ 10) (l : List S40) (hg : ∀ c ∈ l, c.f0 < c.f1) (hl : l.length ≤ 45) : ∃ r : List (List Int), r.length ≤ 100000 ∧ (∀ k, 50000 ≤ k → spec_neSquares.f k a l = some r) ∧ (∀ k, 50000 ≤ k → impl_squares.f k a l = some r) := by
  obtain ⟨n, rfl⟩ := Int.eq_ofNat_of_zero_le (show 0 ≤ a by omega)
  obtain ⟨r, h1, hs, hi⟩ := sq_l0 n (by omega) l hg hl n 0 [] (by omega) (by simp; omega)
  exact ⟨r, h1, fun k hk => hs k (by omega), fun k hk => hi k (by omega)⟩
/-- The calls (1, 2), (3, 4), .. -/
def mkC (n : Nat) : List S40 := (List.range n).map fun (j : Nat) => ⟨1 + 2 * (j : Int), 1 + 2 * (j : Int) + 1⟩
theorem mkC_len (n : Nat) : (mkC n).length = n := by simp [mkC]
theorem mkC_succ (n : Nat) : mkC (n + 1) = mkC n ++ [⟨1 + 2 * (n : Int), 1 + 2 * (n : Int) + 1⟩] := by simp [mkC, List.range_succ]
theorem mkC_rd {n i : Nat} (h : i < n) : rd_T40 (mkC n) (i : Int) = ⟨1 + 2 * (i : Int), 1 + 2 * (i : Int) + 1⟩ := by
  rw [rdCall1 (by rw [mkC_len]; exact h)]
  simp [mkC]
theorem markCallS_l0 (l : List S40) (hn : l.length ≤ 1000000000) : ∀ (d i k : Nat), i + d = l.length → d < k → laws_markCallS.l0 k (mkC i ++ l.drop i) (1 + 2 * (i : Int)) (i : Int) = some (1 + 2 * (l.length : Int), mkC l.length)
  | 0, i, k, hi, hk => by
    obtain ⟨k, rfl⟩ : ∃ q, k = q + 1 := ⟨k - 1, by omega⟩
    have e : i = l.length := by omega
    subst e
    simp only [laws_markCallS.l0]
    rw [if_neg (by rw [List.length_append, mkC_len, List.length_drop]; omega), List.drop_eq_nil_of_le (by omega), List.append_nil]
  | d + 1, i, k, hi, hk => by
    obtain ⟨k, rfl⟩ : ∃ q, k = q + 1 := ⟨k - 1, by omega⟩
    have ha : i < l.length := by omega
    have ih := markCallS_l0 l hn d (i + 1) k (by omega) (by omega)
    simp only [laws_markCallS.l0, Option.bind_some]
    rw [if_pos (by rw [List.length_append, mkC_len, List.length_drop]; omega), if_pos (by omega), up64 ha (by omega), w64 (x := 1 + 2 * (i : Int) + 1) (by omega) (by omega), w64 (x := 1 + 2 * (i : Int) + 1 + 1) (by omega) (by omega), Int.toNat_natCast]
    have hl : i < (mkC i ++ l.drop i).length := by rw [List.length_append, mkC_len, List.length_drop]; omega
    have he : ∀ v : S40, (mkC i ++ l.drop i).set i v = mkC i ++ v :: l.drop (i + 1) := by
      intro v
      rw [List.set_append_right _ _ (by rw [mkC_len]; omega), mkC_len, List.drop_eq_getElem_cons ha, show i - i = 0 by omega, List.set_cons_zero]
    have hr : ∀ v : S40, rd_T40 ((mkC i ++ l.drop i).set i v) (i : Int) = v := by
      intro v
      rw [rdCall1 (by rw [List.length_set]; exact hl), List.getElem_set_self]
    rw [hr, List.set_set, he, show 1 + 2 * (i : Int) + 1 + 1 = 1 + 2 * ((i + 1 : Nat) : Int) by omega]
    rw [mkC_succ, List.append_assoc, List.singleton_append] at ih
    exact ih
theorem markCallS_f (l : List S40) (hn : l.length ≤ 1000000000) {k : Nat} (hk : l.length < k) : laws_markCallS.f k l 1 = some (1 + 2 * (l.length : Int), mkC l.length) := by
  have h := markCallS_l0 l hn l.length 0 k (by omega) hk
  unfold laws_markCallS.f
  simpa [mkC] using h
theorem heldCallS_l0 (n : Nat) (hn : n ≤ 1000000000) : ∀ (d i k : Nat), i + d = n → d < k → laws_heldCallS.l0 k (mkC n) (1 + 2 * (i : Int)) (i : Int) = some (1 + 2 * (n : Int))
  | 0, i, k, hi, hk => by
    obtain ⟨k, rfl⟩ : ∃ q, k = q + 1 := ⟨k - 1, by omega⟩
    have e : i = n := by omega
    subst e
    simp only [laws_heldCallS.l0]
    rw [if_neg (by rw [mkC_len]; omega)]
  | d + 1, i, k, hi, hk => by
    obtain ⟨k, rfl⟩ : ∃ q, k = q + 1 := ⟨k - 1, by omega⟩
    have ha : i < n := by omega
    have ih := heldCallS_l0 n hn d (i + 1) k (by omega) (by omega)
    simp only [laws_heldCallS.l0]
    rw [if_pos (by rw [mkC_len]; omega), if_pos (by omega), mkC_rd ha, if_pos rfl, w64 (x := 1 + 2 * (i : Int) + 1) (by omega) (by omega), if_pos rfl, up64 ha (by omega), w64 (x := 1 + 2 * (i : Int) + 1 + 1) (by omega) (by omega), show 1 + 2 * (i : Int) + 1 + 1 = 1 + 2 * ((i + 1 : Nat) : Int) by omega]
    exact ih
theorem heldCallS_f (n : Nat) (hn : n ≤ 1000000000) {k : Nat} (hk : n < k) : laws_heldCallS.f k (mkC n) 1 = some (1 + 2 * (n : Int)) := by
  have h := heldCallS_l0 n hn n 0 k (by omega) hk
  unfold laws_heldCallS.f
  simpa using h
theorem neIs_mono (x y : Int) (l : List S40) (k : Nat) : ∀ d, LeO (spec_neIs.f k l x y) (spec_neIs.f (k + d) l x y)
  | 0 => fun _ h => h
  | d + 1 => fun r h => spec_neIs.mono l x y (k + d) r (neIs_mono x y l k d r h)
/-- Whatever it answers, it is whether they may call each other. -/
theorem neIs_part (x y : Int) (l : List S40) (hn : l.length ≤ 1048576) {k : Nat} {t : Bool} (h : spec_neIs.f k l x y = some t) : t = hasP l x y := by
  have := neIs_mono x y l k (l.length + 1) t h
  rw [neIs_f x y l hn (by omega)] at this
  exact (Option.some.inj this).symm
/-- Whoever is found lies in each set that holds the first one and is closed under pairs. -/
theorem far_inv (l : List S40) (hn : l.length ≤ 1048576) (n : Nat) (S : Int → Prop) (hS : ∀ i k : Int, 0 ≤ i → i < (n : Int) → 0 ≤ k → k < (n : Int) → S i → hasP l i k = true → S k) : ∀ k : Nat,
    (∀ (x7 x9 r : List Int) (c : Int), x7.length = n → (∀ q ∈ x9, 0 ≤ q ∧ q < (n : Int) ∧ S q) → (∀ j : Int, 0 ≤ j → j < (n : Int) → rd x7 j ≠ -1 → S j) → spec_neFar.l1 k l x7 x9 c = some r → r.length = n ∧ ∀ j : Int, 0 ≤ j → j < (n : Int) → rd r j ≠ -1 → S j) ∧
    (∀ (x7 x9 r : List Int) (c e j : Int), x7.length = n → (∀ q ∈ x9, 0 ≤ q ∧ q < (n : Int) ∧ S q) → (∀ j : Int, 0 ≤ j → j < (n : Int) → rd x7 j ≠ -1 → S j) → spec_neFar.l2 k l x7 x9 c e j = some r → r.length = n ∧ ∀ j : Int, 0 ≤ j → j < (n : Int) → rd r j ≠ -1 → S j)
  | 0 => ⟨fun x7 x9 r c _ _ _ h => by simp [spec_neFar.l1] at h, fun x7 x9 r c e j _ _ _ h => by simp [spec_neFar.l2] at h⟩
  | k + 1 => by
    obtain ⟨ih1, ih2⟩ := far_inv l hn n S hS k
    refine ⟨fun x7 x9 r c h1 h2 h3 h => ?_, fun x7 x9 r c e j h1 h2 h3 h => ?_⟩
    · simp only [spec_neFar.l1] at h
      by_cases b0 : c < (x9.length : Int)
      · rw [if_pos b0] at h
        exact ih2 _ _ _ _ _ _ h1 h2 h3 h
      · rw [if_neg b0] at h
        cases h
        exact ⟨h1, h3⟩
    · simp only [spec_neFar.l2] at h
      by_cases b0 : j < e
      case neg => rw [if_neg b0] at h; exact ih1 _ _ _ _ h1 h2 h3 h
      rw [if_pos b0] at h
      by_cases b1 : 0 ≤ j
      case neg => rw [if_neg b1] at h; cases h
      rw [if_pos b1] at h
      by_cases b2 : j < (x7.length : Int)
      case neg => rw [if_neg b2] at h; cases h
      rw [if_pos b2] at h
      by_cases b3 : rd x7 j < 0
      case neg => rw [if_neg b3] at h; exact ih2 _ _ _ _ _ _ h1 h2 h3 h
      rw [if_pos b3] at h
      by_cases b4 : 0 ≤ c
      case neg => rw [if_neg b4] at h; cases h
      rw [if_pos b4] at h
      by_cases b5 : c < (x9.length : Int)
      case neg => rw [if_neg b5] at h; cases h
      rw [if_pos b5] at h
      obtain ⟨t, ht, h⟩ := Option.bind_eq_some_iff.mp h
      have ht' := neIs_part _ _ _ hn ht
      by_cases b6 : t = true
      case neg => rw [if_neg b6] at h; exact ih2 _ _ _ _ _ _ h1 h2 h3 h
      rw [if_pos b6] at h
      by_cases b7 : 0 ≤ rd x9 c
      case neg => rw [if_neg b7] at h; cases h
      rw [if_pos b7] at h
      by_cases b8 : rd x9 c < (x7.length : Int)
      case neg => rw [if_neg b8] at h; cases h
      rw [if_pos b8] at h
      by_cases b9 : x9.length < 17592186044416
      case neg => rw [if_neg b9] at h; cases h
      rw [if_pos b9] at h
      have hm : rd x9 c ∈ x9 := by
        obtain ⟨m, rfl⟩ := Int.eq_ofNat_of_zero_le b4
        rw [rd_lt (by omega)]
        exact List.getElem_mem _
      have hj : S j := hS (rd x9 c) j b7 (by omega) b1 (by omega) (h2 _ hm).2.2 (by rw [← ht', b6])
      refine ih2 _ _ _ _ _ _ (by rw [List.length_set]; exact h1) (fun q hq => ?_) (fun q q0 q1 hq => ?_) h
      · rw [List.mem_append, List.mem_singleton] at hq
        rcases hq with hq | rfl
        · exact h2 q hq
        · exact ⟨b1, by omega, hj⟩
      · by_cases e : j = q
        · rw [← e]; exact hj
        · rw [rdset_ne b1 q0 e] at hq
          exact h3 q q0 q1 hq
theorem far_inv0 (l : List S40) (hn : l.length ≤ 1048576) (n : Nat) (h10 : n ≤ 10) (S : Int → Prop) (hS : ∀ i k : Int, 0 ≤ i → i < (n : Int) → 0 ≤ k → k < (n : Int) → S i → hasP l i k = true → S k) (s : Int) (h0 : S s) : ∀ (k : Nat) (x7 r : List Int) (i : Int), x7.length = n → 0 ≤ i → (∀ j : Int, 0 ≤ j → j < i → rd x7 j = -1) → spec_neFar.l0 k l s x7 (n : Int) i = some r → r.length = n ∧ ∀ j : Int, 0 ≤ j → j < (n : Int) → rd r j ≠ -1 → S j
  | 0, x7, r, i, _, _, _, h => by simp [spec_neFar.l0] at h
  | k + 1, x7, r, i, h1, h2, h3, h => by
    simp only [spec_neFar.l0] at h
    by_cases b0 : i < (n : Int)
    · rw [if_pos b0] at h
      by_cases b1 : i < (x7.length : Int)
      case neg => rw [if_pos h2, if_neg b1] at h; cases h
      rw [if_pos h2, if_pos b1] at h
      rw [w64 (by omega) (by omega)] at h
      refine far_inv0 l hn n h10 S hS s h0 k _ r (i + 1) (by rw [List.length_set]; exact h1) (by omega) (fun j j0 j1 => ?_) h
      by_cases e : i = j
      · subst e; exact rdset_eq j0 (by omega)
      · rw [rdset_ne h2 j0 e]; exact h3 j j0 (by omega)
    · rw [if_neg b0] at h
      by_cases b1 : 0 ≤ s
      case neg => rw [if_neg b1] at h; cases h
      rw [if_pos b1] at h
      by_cases b2 : s < (x7.length : Int)
      case neg => rw [if_neg b2] at h; cases h
      rw [if_pos b2] at h
      refine (far_inv l hn n S hS k).1 _ _ _ _ (by rw [List.length_set]; exact h1) (fun q hq => ?_) (fun q q0 q1 hq => ?_) h
      · rw [List.mem_singleton] at hq
        subst hq
        exact ⟨b1, by omega, h0⟩
      · by_cases e : s = q
        · rw [← e]; exact h0
        · rw [rdset_ne b1 q0 e, h3 q q0 (by omega)] at hq
          omega
/-- In a joined network each set that holds the first one and is closed under pairs holds all. -/
theorem joined_all (l : List S40) (hn : l.length ≤ 1048576) (n : Nat) (h10 : n ≤ 10) {k : Nat} {o : List Int} (h : spec_neFar.f k (n : Int) l 0 = some o) (hj : (-1 : Int) ∉ o) (S : Int → Prop) (hS : ∀ i k : Int, 0 ≤ i → i < (n : Int) → 0 ≤ k → k < (n : Int) → S i → hasP l i k = true → S k) (h0 : S 0) : ∀ j : Int, 0 ≤ j → j < (n : Int) → S j := by
  unfold spec_neFar.f at h
  rw [if_pos (by omega), if_pos (by omega)] at h
  simp only [Option.bind_some, Int.toNat_natCast, List.length_replicate] at h
  obtain ⟨e1, e2⟩ := far_inv0 l hn n h10 S hS 0 h0 k _ o 0 (by simp) (by omega) (fun j j0 j1 => by omega) h
  intro j j0 j1
  refine e2 j j0 j1 (fun e => hj ?_)
  obtain ⟨m, rfl⟩ := Int.eq_ofNat_of_zero_le j0
  rw [rd_lt (by omega)] at e
  rw [← e]
  exact List.getElem_mem _
/-- The first one that is in and has a pair with x, or -1. -/
def scanY (l : List S40) (inn : List Int) (x : Int) : Nat → Int → Int
  | 0, _ => -1
  | d + 1, y => if y ∈ inn ∧ hasP l x y = true then y else scanY l inn x d (y + 1)
/-- The first one that is not in and has such a one, and this. -/
def scanX (l : List S40) (inn : List Int) (n : Nat) : Nat → Int → Int × Int
  | 0, _ => (-1, -1)
  | d + 1, x => if x ∈ inn then scanX l inn n d (x + 1) else if 0 ≤ scanY l inn x n 0 then (x, scanY l inn x n 0) else scanX l inn n d (x + 1)
theorem spFound (n : Nat) (h10 : n ≤ 10) (l : List S40) (inn : List Int) (hin : inn.length ≤ 20) (out : List S40) (ho : out.length ≤ 100) (x y : Int) (h0 : 0 ≤ x) (h1 : x < (n : Int)) (r : List S40) (B : Nat) (H : ∀ k, B ≤ k → spec_neTree.l0 k (n : Int) l (inn ++ [x]) (out ++ [⟨mn x y, mx x y⟩]) = some r) (z : Int) : ∀ k, B + 5 ≤ k → spec_neTree.l2 k (n : Int) l inn out x y x z = some r := by
  intro k hk
  obtain ⟨k, rfl⟩ : ∃ q, k = q + 4 := ⟨k - 4, by omega⟩
  have e1 : spec_neTree.j2 (k + 1) (n : Int) l inn out x y (x + 1) false = some r := by
    simp only [spec_neTree.j2, Bool.false_eq_true, if_false]
    rw [if_pos (by omega), caPair_f]
    simp only [Option.bind_some]
    rw [if_pos (by omega)]
    exact H k (by omega)
  have e2 : spec_neTree.l1 (k + 2) (n : Int) l inn out x y (wrap64 (x + 1)) = some r := by
    rw [w64 (by omega) (by omega)]
    simp only [spec_neTree.l1]
    rw [decide_eq_false (show ¬ x < 0 by omega), e1, ite_self]
  have e3 : spec_neTree.j4 (k + 3) (n : Int) l inn out x y x z false = some r := by
    simp only [spec_neTree.j4, Bool.false_eq_true, if_false]
    exact e2
  simp only [spec_neTree.l2]
  rw [if_neg (show ¬ x < 0 by omega), e3, ite_self]
theorem spY (n : Nat) (h10 : n ≤ 10) (l : List S40) (hl : l.length ≤ 45) (inn : List Int) (hin : inn.length ≤ 20) (out : List S40) (ho : out.length ≤ 100) (x : Int) (h0 : 0 ≤ x) (h1 : x < (n : Int)) (hx : x ∉ inn) (r : List S40) (B : Nat) : ∀ (d y : Nat), y + d = n →
    (scanY l inn x d y < 0 → ∀ k, B ≤ k → spec_neTree.l1 k (n : Int) l inn out (-1) (-1) (x + 1) = some r) →
    (0 ≤ scanY l inn x d y → ∀ k, B ≤ k → spec_neTree.l0 k (n : Int) l (inn ++ [x]) (out ++ [⟨mn x (scanY l inn x d y), mx x (scanY l inn x d y)⟩]) = some r) →
    ∀ k, B + 2 * d + 60 ≤ k → spec_neTree.l2 k (n : Int) l inn out (-1) (-1) x (y : Int) = some r
  | 0, y, hy, H1, _, k, hk => by
    obtain ⟨k, rfl⟩ : ∃ q, k = q + 2 := ⟨k - 2, by omega⟩
    simp only [spec_neTree.l2]
    rw [if_neg (by omega)]
    simp only [spec_neTree.j4, Bool.false_eq_true, if_false]
    rw [w64 (by omega) (by omega)]
    exact H1 (by simp [scanY]) k (by omega)
  | d + 1, y, hy, H1, H2, k, hk => by
    obtain ⟨k, rfl⟩ : ∃ q, k = q + 2 := ⟨k - 2, by omega⟩
    simp only [spec_neTree.l2]
    rw [if_pos (by omega), if_pos (by omega), has_f x inn (by omega) (by omega), decide_eq_false hx]
    simp only [Option.bind_some, Bool.not_false, spec_neTree.j4, if_true]
    rw [has_f (y : Int) inn (by omega) (by omega)]
    simp only [Option.bind_some, decide_eq_true_eq]
    rw [neIs_f x y l (by omega) (by omega)]
    simp only [Option.bind_some]
    rw [up64 (n := n) (by omega) (by omega)]
    by_cases c : (y : Int) ∈ inn ∧ hasP l x y = true
    · have e : scanY l inn x (d + 1) (y : Int) = (y : Int) := by simp only [scanY]; rw [if_pos c]
      rw [e] at H2
      rw [if_pos c.1, if_pos c.2]
      exact spFound n h10 l inn hin out ho x y h0 h1 r B (H2 (by omega)) _ k (by omega)
    · have e : scanY l inn x (d + 1) (y : Int) = scanY l inn x d ((y + 1 : Nat) : Int) := by simp only [scanY]; rw [if_neg c]; rfl
      rw [e] at H1 H2
      have ih := spY n h10 l hl inn hin out ho x h0 h1 hx r B d (y + 1) (by omega) H1 H2 k (by omega)
      by_cases c1 : (y : Int) ∈ inn
      · rw [if_pos c1, if_neg (fun c2 => c ⟨c1, c2⟩)]
        exact ih
      · rw [if_neg c1]
        exact ih
theorem spX (n : Nat) (h10 : n ≤ 10) (l : List S40) (hl : l.length ≤ 45) (inn : List Int) (hin : inn.length ≤ 20) (out : List S40) (ho : out.length ≤ 100) (r : List S40) (B : Nat) : ∀ (d x : Nat), x + d = n → 0 ≤ (scanX l inn n d x).1 →
    (∀ k, B ≤ k → spec_neTree.l0 k (n : Int) l (inn ++ [(scanX l inn n d x).1]) (out ++ [⟨mn (scanX l inn n d x).1 (scanX l inn n d x).2, mx (scanX l inn n d x).1 (scanX l inn n d x).2⟩]) = some r) →
    ∀ k, B + 90 * d + 60 ≤ k → spec_neTree.l1 k (n : Int) l inn out (-1) (-1) (x : Int) = some r
  | 0, x, hx, h, _, k, hk => by simp [scanX] at h
  | d + 1, x, hx, h, H, k, hk => by
    obtain ⟨k, rfl⟩ : ∃ q, k = q + 2 := ⟨k - 2, by omega⟩
    simp only [spec_neTree.l1]
    rw [if_pos (by omega), decide_eq_true (by omega)]
    simp only [spec_neTree.j2, if_true]
    by_cases c : (x : Int) ∈ inn
    · have e : scanX l inn n (d + 1) (x : Int) = scanX l inn n d ((x + 1 : Nat) : Int) := by simp only [scanX]; rw [if_pos c]; rfl
      rw [e] at h H
      have ih := spX n h10 l hl inn hin out ho r B d (x + 1) (by omega) h H
      obtain ⟨k, rfl⟩ : ∃ q, k = q + 2 := ⟨k - 2, by omega⟩
      simp only [spec_neTree.l2]
      rw [if_pos (by omega), if_pos (by omega), has_f (x : Int) inn (by omega) (by omega), decide_eq_true c]
      simp only [Option.bind_some, Bool.not_true, spec_neTree.j4, Bool.false_eq_true, if_false]
      rw [up64 (n := n) (by omega) (by omega)]
      exact ih k (by omega)
    · refine spY n h10 l hl inn hin out ho x (by omega) (by omega) c r (B + 90 * d + 60) n 0 (by omega) (fun hs => ?_) (fun hs => ?_) k (by omega)
      · have e : scanX l inn n (d + 1) (x : Int) = scanX l inn n d ((x + 1 : Nat) : Int) := by simp only [scanX]; rw [if_neg c, if_neg (by simpa using hs)]; rfl
        rw [e] at h H
        exact spX n h10 l hl inn hin out ho r B d (x + 1) (by omega) h H
      · have e : scanX l inn n (d + 1) (x : Int) = ((x : Int), scanY l inn x n 0) := by simp only [scanX]; rw [if_neg c, if_pos (by simpa using hs)]
        rw [e] at H
        intro k hk
        exact H k (by omega)
theorem imFound (n : Nat) (h10 : n ≤ 10) (l : List S40) (inn : List Int) (hin : inn.length ≤ 20) (out : List S40) (ho : out.length ≤ 100) (x y : Int) (hy : 0 ≤ y) (r : List S40) (B : Nat) (H : ∀ k, B ≤ k → impl_grown.l0 k (n : Int) l (out ++ [⟨mn x y, mx x y⟩]) (inn ++ [x]) = some r) : ∀ (d z : Nat), z + d = n → ∀ k, B + d + 2 ≤ k → impl_grown.l2 k (n : Int) l out inn x y (n : Int) x (n : Int) (z : Int) = some r
  | 0, z, hz, k, hk => by
    obtain ⟨k, rfl⟩ : ∃ q, k = q + 1 := ⟨k - 1, by omega⟩
    simp only [impl_grown.l2]
    rw [if_neg (by omega), if_pos (by omega)]
    simp only [impl_call.f, Option.bind_some]
    rw [if_pos (by omega), if_pos (by omega)]
    exact H k (by omega)
  | d + 1, z, hz, k, hk => by
    obtain ⟨k, rfl⟩ : ∃ q, k = q + 1 := ⟨k - 1, by omega⟩
    have ih := imFound n h10 l inn hin out ho x y hy r B H d (z + 1) (by omega) k (by omega)
    simp only [impl_grown.l2]
    rw [if_pos (by omega), if_neg (by omega), up64 (n := n) (by omega) (by omega)]
    exact ih
theorem imY (n : Nat) (h10 : n ≤ 10) (l : List S40) (hg : ∀ c ∈ l, c.f0 < c.f1) (hl : l.length ≤ 45) (inn : List Int) (hin : inn.length ≤ 20) (out : List S40) (ho : out.length ≤ 100) (x : Int) (h0 : 0 ≤ x) (h1 : x < (n : Int)) (r : List S40) (B : Nat) : ∀ (d y : Nat), y + d = n →
    (scanY l inn x d y < 0 → ∀ k, B ≤ k → impl_grown.l1 k (n : Int) l out inn (n : Int) (x + 1) = some r) →
    (0 ≤ scanY l inn x d y → ∀ k, B ≤ k → impl_grown.l0 k (n : Int) l (out ++ [⟨mn x (scanY l inn x d y), mx x (scanY l inn x d y)⟩]) (inn ++ [x]) = some r) →
    ∀ k, B + d + 60 ≤ k → impl_grown.l2 k (n : Int) l out inn x (-1) (n : Int) x (n : Int) (y : Int) = some r
  | 0, y, hy, H1, _, k, hk => by
    obtain ⟨k, rfl⟩ : ∃ q, k = q + 1 := ⟨k - 1, by omega⟩
    simp only [impl_grown.l2]
    rw [if_neg (by omega), if_neg (by omega), w64 (by omega) (by omega)]
    exact H1 (by simp [scanY]) k (by omega)
  | d + 1, y, hy, H1, H2, k, hk => by
    obtain ⟨k, rfl⟩ : ∃ q, k = q + 1 := ⟨k - 1, by omega⟩
    simp only [impl_grown.l2]
    rw [if_pos (by omega), if_pos (by omega), contains_f inn (y : Int) (by omega) (by omega)]
    simp only [Option.bind_some, decide_eq_true_eq]
    rw [isPair_f x y l hg (by omega) (by omega)]
    simp only [Option.bind_some]
    rw [up64 (n := n) (by omega) (by omega)]
    by_cases c : (y : Int) ∈ inn ∧ hasP l x y = true
    · have e : scanY l inn x (d + 1) (y : Int) = (y : Int) := by simp only [scanY]; rw [if_pos c]
      rw [e] at H2
      rw [if_pos c.1, if_pos c.2]
      exact imFound n h10 l inn hin out ho x y (by omega) r B (H2 (by omega)) d (y + 1) (by omega) k (by omega)
    · have e : scanY l inn x (d + 1) (y : Int) = scanY l inn x d ((y + 1 : Nat) : Int) := by simp only [scanY]; rw [if_neg c]; rfl
      rw [e] at H1 H2
      have ih := imY n h10 l hg hl inn hin out ho x h0 h1 r B d (y + 1) (by omega) H1 H2 k (by omega)
      by_cases c1 : (y : Int) ∈ inn
      · rw [if_pos c1, if_neg (fun c2 => c ⟨c1, c2⟩)]
        exact ih
      · rw [if_neg c1]
        exact ih
theorem imX (n : Nat) (h10 : n ≤ 10) (l : List S40) (hg : ∀ c ∈ l, c.f0 < c.f1) (hl : l.length ≤ 45) (inn : List Int) (hin : inn.length ≤ 20) (out : List S40) (ho : out.length ≤ 100) (r : List S40) (B : Nat) : ∀ (d x : Nat), x + d = n → 0 ≤ (scanX l inn n d x).1 →
    (∀ k, B ≤ k → impl_grown.l0 k (n : Int) l (out ++ [⟨mn (scanX l inn n d x).1 (scanX l inn n d x).2, mx (scanX l inn n d x).1 (scanX l inn n d x).2⟩]) (inn ++ [(scanX l inn n d x).1]) = some r) →
    ∀ k, B + 90 * d + 60 ≤ k → impl_grown.l1 k (n : Int) l out inn (n : Int) (x : Int) = some r
  | 0, x, hx, h, _, k, hk => by simp [scanX] at h
  | d + 1, x, hx, h, H, k, hk => by
    obtain ⟨k, rfl⟩ : ∃ q, k = q + 1 := ⟨k - 1, by omega⟩
    simp only [impl_grown.l1]
    rw [if_pos (by omega), contains_f inn (x : Int) (by omega) (by omega)]
    simp only [Option.bind_some, decide_eq_true_eq]
    rw [up64 (n := n) (by omega) (by omega)]
    by_cases c : (x : Int) ∈ inn
    · have e : scanX l inn n (d + 1) (x : Int) = scanX l inn n d ((x + 1 : Nat) : Int) := by simp only [scanX]; rw [if_pos c]; rfl
      rw [e] at h H
      rw [if_pos c]
      exact imX n h10 l hg hl inn hin out ho r B d (x + 1) (by omega) h H k (by omega)
    · rw [if_neg c]
      refine imY n h10 l hg hl inn hin out ho x (by omega) (by omega) r (B + 90 * d + 60) n 0 (by omega) (fun hs => ?_) (fun hs => ?_) k (by omega)
      · have e : scanX l inn n (d + 1) (x : Int) = scanX l inn n d ((x + 1 : Nat) : Int) := by simp only [scanX]; rw [if_neg c, if_neg (by simpa using hs)]; rfl
        rw [e] at h H
        exact imX n h10 l hg hl inn hin out ho r B d (x + 1) (by omega) h H
      · have e : scanX l inn n (d + 1) (x : Int) = ((x : Int), scanY l inn x n 0) := by simp only [scanX]; rw [if_neg c, if_pos (by simpa using hs)]
        rw [e] at H
        intro k hk
        exact H k (by omega)
theorem scanY_some (l : List S40) (inn : List Int) (x : Int) : ∀ (d y : Nat), (∃ z : Nat, y ≤ z ∧ z < y + d ∧ (z : Int) ∈ inn ∧ hasP l x z = true) → 0 ≤ scanY l inn x d y
  | 0, y, ⟨z, h1, h2, _⟩ => by omega
  | d + 1, y, ⟨z, h1, h2, h3, h4⟩ => by
    simp only [scanY]
    by_cases c : (y : Int) ∈ inn ∧ hasP l x y = true
    · rw [if_pos c]; omega
    · rw [if_neg c]
      have e : z ≠ y := fun e => c ⟨e ▸ h3, e ▸ h4⟩
      exact scanY_some l inn x d (y + 1) ⟨z, by omega, by omega, h3, h4⟩
theorem scanX_some (l : List S40) (inn : List Int) (n : Nat) : ∀ (d x : Nat), x + d = n → (∃ z : Nat, x ≤ z ∧ z < n ∧ (z : Int) ∉ inn ∧ ∃ y : Nat, y < n ∧ (y : Int) ∈ inn ∧ hasP l z y = true) → 0 ≤ (scanX l inn n d x).1 ∧ (scanX l inn n d x).1 < (n : Int) ∧ (scanX l inn n d x).1 ∉ inn
  | 0, x, hx, ⟨z, h1, h2, _⟩ => by omega
  | d + 1, x, hx, ⟨z, h1, h2, h3, y, h4, h5, h6⟩ => by
    simp only [scanX]
    by_cases c : (x : Int) ∈ inn
    · rw [if_pos c]
      have e : z ≠ x := fun e => h3 (e ▸ c)
      exact scanX_some l inn n d (x + 1) (by omega) ⟨z, by omega, h2, h3, y, h4, h5, h6⟩
    · rw [if_neg c]
      by_cases c2 : 0 ≤ scanY l inn x n 0
      · rw [if_pos c2]
        exact ⟨by dsimp only; omega, by dsimp only; omega, c⟩
      · rw [if_neg c2]
        have e : z ≠ x := fun e => c2 (scanY_some l inn x n 0 ⟨y, by omega, by omega, h5, e ▸ h6⟩)
        exact scanX_some l inn n d (x + 1) (by omega) ⟨z, by omega, h2, h3, y, h4, h5, h6⟩
theorem hasP_symm (l : List S40) (x y : Int) : hasP l x y = hasP l y x := by
  unfold hasP
  rw [show mn x y = mn y x by unfold mn; split <;> split <;> omega, show mx x y = mx y x by unfold mx; split <;> split <;> omega]
/-- Somebody who is not in has a pair with somebody who is. -/
theorem cross (l : List S40) (n : Nat) (J : ∀ S : Int → Prop, (∀ i k : Int, 0 ≤ i → i < (n : Int) → 0 ≤ k → k < (n : Int) → S i → hasP l i k = true → S k) → S 0 → ∀ j : Int, 0 ≤ j → j < (n : Int) → S j) (inn : List Int) (h1 : inn ≠ []) (h2 : ∀ q ∈ inn, 0 ≤ q ∧ q < (n : Int)) (h3 : inn.length < n) : ∃ z : Nat, 0 ≤ z ∧ z < n ∧ (z : Int) ∉ inn ∧ ∃ y : Nat, y < n ∧ (y : Int) ∈ inn ∧ hasP l z y = true := by
  refine Classical.byContradiction fun hno => ?_
  have no : ∀ z y : Int, 0 ≤ z → z < (n : Int) → 0 ≤ y → y < (n : Int) → z ∉ inn → y ∈ inn → hasP l z y = true → False := by
    intro z y z0 z1 y0 y1 a b c
    obtain ⟨z, rfl⟩ := Int.eq_ofNat_of_zero_le z0
    obtain ⟨y, rfl⟩ := Int.eq_ofNat_of_zero_le y0
    exact hno ⟨z, by omega, by omega, a, y, by omega, b, c⟩
  have all := J (fun j => j ∈ inn ↔ (0 : Int) ∈ inn) (fun i k i0 i1 k0 k1 hi hp => by
    refine ⟨fun hk => ?_, fun h0 => ?_⟩
    · refine Classical.byContradiction fun h0 => ?_
      exact no i k i0 i1 k0 k1 (fun h => h0 (hi.1 h)) hk hp
    · refine Classical.byContradiction fun hk => ?_
      exact no k i k0 k1 i0 i1 hk (hi.2 h0) (by rw [hasP_symm]; exact hp)) Iff.rfl
  by_cases h0 : (0 : Int) ∈ inn
  · have hs : ((List.range n).map fun (j : Nat) => (j : Int)) ⊆ inn := by
      intro j hj
      rw [List.mem_map] at hj
      obtain ⟨m, hm, rfl⟩ := hj
      rw [List.mem_range] at hm
      exact (all m (by omega) (by omega)).2 h0
    have hnd : ((List.range n).map fun (j : Nat) => (j : Int)).Nodup := by
      unfold List.Nodup
      rw [List.pairwise_map]
      exact (List.nodup_range (n := n)).imp (fun h e => h (by omega))
    have := hnd.length_le_of_subset hs
    simp at this
    omega
  · obtain ⟨q, hq⟩ := List.exists_mem_of_ne_nil inn h1
    exact h0 ((all q (h2 q hq).1 (h2 q hq).2).1 hq)
theorem tree_both (l : List S40) (hg : ∀ c ∈ l, c.f0 < c.f1) (hl : l.length ≤ 45) (n : Nat) (h10 : n ≤ 10) (J : ∀ S : Int → Prop, (∀ i k : Int, 0 ≤ i → i < (n : Int) → 0 ≤ k → k < (n : Int) → S i → hasP l i k = true → S k) → S 0 → ∀ j : Int, 0 ≤ j → j < (n : Int) → S j) : ∀ (m : Nat) (inn : List Int) (out : List S40), inn.length + m = n → inn ≠ [] → (∀ q ∈ inn, 0 ≤ q ∧ q < (n : Int)) → out.length + m ≤ 20 → ∃ r : List S40, r.length = out.length + m ∧ (∀ k, 100 + 1000 * m ≤ k → spec_neTree.l0 k (n : Int) l inn out = some r) ∧ (∀ k, 100 + 1000 * m ≤ k → impl_grown.l0 k (n : Int) l out inn = some r)
  | 0, inn, out, h1, h2, h3, h4 => by
    refine ⟨out, rfl, fun k hk => ?_, fun k hk => ?_⟩
    · obtain ⟨k, rfl⟩ : ∃ q, k = q + 1 := ⟨k - 1, by omega⟩
      simp only [spec_neTree.l0]
      rw [if_neg (by omega)]
    · obtain ⟨k, rfl⟩ : ∃ q, k = q + 1 := ⟨k - 1, by omega⟩
      simp only [impl_grown.l0]
      rw [if_neg (by omega)]
  | m + 1, inn, out, h1, h2, h3, h4 => by
    obtain ⟨s0, s1, s2⟩ := scanX_some l inn n n 0 (by omega) (cross l n J inn h2 h3 (by omega))
    obtain ⟨r, er, hs, hi⟩ := tree_both l hg hl n h10 J m (inn ++ [(scanX l inn n n (0 : Nat)).1]) (out ++ [⟨mn (scanX l inn n n (0 : Nat)).1 (scanX l inn n n (0 : Nat)).2, mx (scanX l inn n n (0 : Nat)).1 (scanX l inn n n (0 : Nat)).2⟩]) (by simp; omega) (by simp) (fun q hq => by
      rw [List.mem_append, List.mem_singleton] at hq
      rcases hq with hq | rfl
      · exact h3 q hq
      · exact ⟨s0, s1⟩) (by simp; omega)
    refine ⟨r, by rw [er]; simp; omega, fun k hk => ?_, fun k hk => ?_⟩
    · obtain ⟨k, rfl⟩ : ∃ q, k = q + 1 := ⟨k - 1, by omega⟩
      simp only [spec_neTree.l0]
      rw [if_pos (by omega)]
      exact spX n h10 l hl inn (by omega) out (by omega) r (100 + 1000 * m) n 0 (by omega) s0 hs k (by omega)
    · obtain ⟨k, rfl⟩ : ∃ q, k = q + 1 := ⟨k - 1, by omega⟩
      simp only [impl_grown.l0]
      rw [if_pos (by omega)]
      exact imX n h10 l hg hl inn (by omega) out (by omega) r (100 + 1000 * m) n 0 (by omega) s0 hi k (by omega)
theorem turned_f (t : List S40) (h : t.length ≤ 1000) : impl_Call_43.f t = some t.reverse := by
  unfold impl_Call_43.f impl_Call_62.f impl_Call_81.f
  rw [if_pos (by omega)]
  simp only [Option.bind_some]
  rw [if_pos (by omega)]
  rfl
theorem concat_f (ts : List (List S40)) (h1 : ts.length ≤ 1000) (h2 : ts.flatten.length ≤ 1000000) : impl_Call_42.f ts = some ts.flatten := by
  unfold impl_Call_42.f
  rw [if_pos ⟨h1, by omega⟩]
theorem joined_f (a : Int) (l : List S40) (h : areP a l = true) : ∃ b : Bool, (∀ k, 1100000 ≤ k → spec_neJoined.f k a l = some b) ∧ (∀ k, 1100000 ≤ k → impl_isJoined.f k a l = some b) ∧ (b = true → ∀ S : Int → Prop, (∀ i k : Int, 0 ≤ i → i < a → 0 ≤ k → k < a → S i → hasP l i k = true → S k) → S 0 → ∀ j : Int, 0 ≤ j → j < a → S j) := by
  obtain ⟨ha, hgood, hlen⟩ := areP_good h
  have hg : ∀ c ∈ l, c.f0 < c.f1 := fun c hc => (hgood c hc).2.1
  obtain ⟨o, o1, _, os, oi⟩ := far_both a ha.1 ha.2 l hg hlen 0 (by omega) (by omega)
  refine ⟨!decide ((-1 : Int) ∈ o), fun k hk => ?_, fun k hk => ?_, fun hb => ?_⟩
  · unfold spec_neJoined.f
    rw [os k (by omega)]
    simp only [Option.bind_some]
    rw [has_f (-1) o (by omega) (by omega)]
    rfl
  · unfold impl_isJoined.f
    rw [oi k (by omega)]
    simp only [Option.bind_some]
    rw [contains_f o (-1) (by omega) (by omega)]
    rfl
  · obtain ⟨n, rfl⟩ := Int.eq_ofNat_of_zero_le (show 0 ≤ a by omega)
    exact joined_all l (by omega) n (by omega) (os 500 (by omega)) (by simpa using hb)
/-- The tree that begins with some friends. -/
theorem plan_tree (a : Int) (l : List S40) (h : areP a l = true) (J : ∀ S : Int → Prop, (∀ i k : Int, 0 ≤ i → i < a → 0 ≤ k → k < a → S i → hasP l i k = true → S k) → S 0 → ∀ j : Int, 0 ≤ j → j < a → S j) (s : List Int) (s1 : s ≠ []) (s2 : ∀ q ∈ s, 0 ≤ q ∧ q < a) (s3 : (s.length : Int) ≤ a) : ∃ t : List S40, t.length ≤ 20 ∧ (∀ k, 20000 ≤ k → spec_neTree.f k a l s = some t) ∧ (∀ k, 20000 ≤ k → impl_grown.f k a l s = some t) := by
  obtain ⟨ha, hgood, hlen⟩ := areP_good h
  have hg : ∀ c ∈ l, c.f0 < c.f1 := fun c hc => (hgood c hc).2.1
  obtain ⟨n, rfl⟩ := Int.eq_ofNat_of_zero_le (show 0 ≤ a by omega)
  obtain ⟨t, et, hs, hi⟩ := tree_both l hg hlen n (by omega) J (n - s.length) s [] (by omega) s1 s2 (by simp; omega)
  refine ⟨t, by rw [et]; simp; omega, fun k hk => ?_, fun k hk => ?_⟩
  · unfold spec_neTree.f spec_l1Own.f
    simp only [Option.bind_some, List.nil_append, List.length_nil]
    rw [if_pos (by omega)]
    exact hs k (by omega)
  · unfold impl_grown.f slices_Clone_int_int.f
    rw [if_pos (by omega)]
    exact hi k (by omega)
/-- Four friends around. -/
def SqG (n : Int) (q : List Int) : Prop := ∃ w x y z : Int, q = [w, x, y, z] ∧ 0 ≤ w ∧ w < x ∧ x < z ∧ z < n ∧ w < y ∧ y < n ∧ y ≠ x ∧ y ≠ z
theorem sq_inv (l : List S40) (n : Int) (hn : n ≤ 10) : ∀ k : Nat,
    (∀ (x5 r : List (List Int)) (w : Int), 0 ≤ w → (∀ q ∈ x5, SqG n q) → spec_neSquares.l0 k n l x5 w = some r → ∀ q ∈ r, SqG n q) ∧
    (∀ (x5 r : List (List Int)) (w x : Int), 0 ≤ w → w < n → w < x → (∀ q ∈ x5, SqG n q) → spec_neSquares.l1 k n l x5 w x = some r → ∀ q ∈ r, SqG n q) ∧
    (∀ (x5 r : List (List Int)) (w x y : Int), 0 ≤ w → w < n → w < x → x < n → w < y → (∀ q ∈ x5, SqG n q) → spec_neSquares.l2 k n l x5 w x y = some r → ∀ q ∈ r, SqG n q) ∧
    (∀ (x5 r : List (List Int)) (w x y z : Int), 0 ≤ w → w < n → w < x → x < n → w < y → y < n → x < z → (∀ q ∈ x5, SqG n q) → spec_neSquares.l3 k n l x5 w x y z = some r → ∀ q ∈ r, SqG n q)
  | 0 => ⟨fun x5 r w _ _ h => by simp [spec_neSquares.l0] at h, fun x5 r w x _ _ _ _ h => by simp [spec_neSquares.l1] at h, fun x5 r w x y _ _ _ _ _ _ h => by simp [spec_neSquares.l2] at h, fun x5 r w x y z _ _ _ _ _ _ _ _ h => by simp [spec_neSquares.l3] at h⟩
  | k + 1 => by
    obtain ⟨i0, i1, i2, i3⟩ := sq_inv l n hn k
    refine ⟨fun x5 r w h0 hq h => ?_, fun x5 r w x h0 h1 h2 hq h => ?_, fun x5 r w x y h0 h1 h2 h3 h4 hq h => ?_, fun x5 r w x y z h0 h1 h2 h3 h4 h5 h6 hq h => ?_⟩
    · simp only [spec_neSquares.l0] at h
      by_cases c : w < n
      · rw [if_pos c, w64 (x := w + 1) (by omega) (by omega)] at h
        exact i1 _ _ _ _ h0 c (by omega) hq h
      · rw [if_neg c] at h
        cases h
        exact hq
    · simp only [spec_neSquares.l1] at h
      rw [w64 (x := w + 1) (by omega) (by omega)] at h
      by_cases c : x < n
      · rw [if_pos c] at h
        exact i2 _ _ _ _ _ h0 h1 h2 c (by omega) hq h
      · rw [if_neg c] at h
        exact i0 _ _ _ (by omega) hq h
    · simp only [spec_neSquares.l2] at h
      rw [w64 (x := x + 1) (by omega) (by omega)] at h
      by_cases c : y < n
      · rw [if_pos c] at h
        exact i3 _ _ _ _ _ _ h0 h1 h2 h3 h4 c (by omega) hq h
      · rw [if_neg c] at h
        exact i1 _ _ _ _ h0 h1 (by omega) hq h
    · simp only [spec_neSquares.l3] at h
      rw [w64 (x := y + 1) (by omega) (by omega)] at h
      by_cases c : z < n
      case neg => rw [if_neg c] at h; exact i2 _ _ _ _ _ h0 h1 h2 h3 (by omega) hq h
      rw [if_pos c, w64 (x := z + 1) (by omega) (by omega)] at h
      have go : ∀ q5 : List (List Int), (∀ q ∈ q5, SqG n q) → spec_neSquares.l3 k n l q5 w x y (z + 1) = some r → ∀ q ∈ r, SqG n q := fun q5 g h => i3 _ _ _ _ _ _ h0 h1 h2 h3 h4 h5 (by omega) g h
      by_cases c1 : y = x
      · rw [if_pos c1] at h; exact go _ hq h
      rw [if_neg c1] at h
      by_cases c2 : y = z
      · rw [if_pos c2] at h; exact go _ hq h
      rw [if_neg c2] at h
      obtain ⟨t1, _, h⟩ := Option.bind_eq_some_iff.mp h
      by_cases d1 : t1 = true
      case neg => rw [if_neg d1] at h; exact go _ hq h
      rw [if_pos d1] at h
      obtain ⟨t2, _, h⟩ := Option.bind_eq_some_iff.mp h
      by_cases d2 : t2 = true
      case neg => rw [if_neg d2] at h; exact go _ hq h
      rw [if_pos d2] at h
      obtain ⟨t3, _, h⟩ := Option.bind_eq_some_iff.mp h
      by_cases d3 : t3 = true
      case neg => rw [if_neg d3] at h; exact go _ hq h
      rw [if_pos d3] at h
      obtain ⟨t4, _, h⟩ := Option.bind_eq_some_iff.mp h
      by_cases d4 : t4 = true
      case neg => rw [if_neg d4] at h; exact go _ hq h
      rw [if_pos d4] at h
      by_cases d5 : x5.length < 5864062014805
      case neg => rw [if_neg d5] at h; cases h
      rw [if_pos d5] at h
      refine go _ (fun q hm => ?_) h
      rw [List.mem_append, List.mem_singleton] at hm
      rcases hm with hm | rfl
      · exact hq q hm
      · exact ⟨w, x, y, z, rfl, h0, h2, h6, c, h4, h5, c1, c2⟩
-- SAYS For every number of friends and every list of pairs the program's SquarePlan and the reference's agree, and the plan shares no memory; no conditions.
def four (w x y z : Int) : List S40 := [⟨mn w x, mx w x⟩, ⟨mn y z, mx y z⟩, ⟨mn w z, mx w z⟩, ⟨mn x y, mx x y⟩]
theorem sp_l0 (w x y z : Int) (t : List S40) (ht : t.length ≤ 1000) : ∀ (i k : Nat) (acc : List S40), i ≤ t.length → acc.length + i ≤ 5000 → i + 5 < k → spec_SquarePlan.l0 k [w, x, y, z] t acc ((i : Int) - 1) = some ((acc ++ (t.take i).reverse) ++ four w x y z ++ t, true)
  | 0, k, acc, hi, ha, hk => by
    obtain ⟨k, rfl⟩ : ∃ q, k = q + 1 := ⟨k - 1, by omega⟩
    have r0 : rd [w, x, y, z] 0 = w := rfl
    have r1 : rd [w, x, y, z] 1 = x := rfl
    have r2 : rd [w, x, y, z] 2 = y := rfl
    have r3 : rd [w, x, y, z] 3 = z := rfl
    simp only [spec_SquarePlan.l0]
    have l0 : ((0 : Int) < ([w, x, y, z].length : Int)) = True := eq_true (by simp)
    have l1 : ((1 : Int) < ([w, x, y, z].length : Int)) = True := eq_true (by simp)
    have l2 : ((2 : Int) < ([w, x, y, z].length : Int)) = True := eq_true (by simp)
    have l3 : ((3 : Int) < ([w, x, y, z].length : Int)) = True := eq_true (by simp)
    rw [if_neg (by omega)]
    simp only [l0, l1, l2, l3, if_true, r0, r1, r2, r3, caPair_f, Option.bind_some]
    rw [if_pos (by simp; omega), if_pos (by simp; omega)]
    simp [four]
  | i + 1, k, acc, hi, ha, hk => by
    obtain ⟨k, rfl⟩ : ∃ q, k = q + 1 := ⟨k - 1, by omega⟩
    have hl : i < t.length := by omega
    have ih := sp_l0 w x y z t ht i k (acc ++ [t[i]]) (by omega) (by simp; omega) (by omega)
    simp only [spec_SquarePlan.l0]
    rw [show ((i + 1 : Nat) : Int) - 1 = (i : Int) by omega, if_pos (by omega), if_pos (by omega), if_pos (by omega), if_pos (by omega), rdCall1 hl, w64 (x := (i : Int) - 1) (by omega) (by omega)]
    rw [List.take_succ_eq_append_getElem hl, List.reverse_append]
    simpa using ih
theorem SquarePlan_both (a : Int) (l : List S40) (hl : l.length ≤ 1048576) : ∃ r : List S40 × Bool, r.1.length ≤ 1000 ∧ (∀ k, 1200000 ≤ k → spec_SquarePlan.f k a l = some r) ∧ (∀ k, 1200000 ≤ k → impl_SquarePlan.f k a l = some r) := by
  by_cases h : areP a l = true
  · obtain ⟨b, js, ji, J⟩ := joined_f a l h
    obtain ⟨ha, hgood, hlen⟩ := areP_good h
    have hg : ∀ c ∈ l, c.f0 < c.f1 := fun c hc => (hgood c hc).2.1
    obtain ⟨q, q1, qs, qi⟩ := sq_both a ha.1 ha.2 l hg hlen
    have fi : ∀ k, 1200000 ≤ k → impl_FirstSquare.f k a l = some (if q.length = 0 then ([], false) else (rd_L3 q 0, true)) := fun k hk => by
      unfold impl_FirstSquare.f
      rw [arePairs_f a l hl (by omega), h]
      simp only [Option.bind_some, if_true, qi k (by omega)]
      by_cases hq : q.length = 0
      · rw [if_pos (by omega), if_pos hq]
      · rw [if_neg (by omega), if_neg hq, if_pos (by omega)]
    cases b with
    | false =>
      refine ⟨([], false), by simp, fun k hk => ?_, fun k hk => ?_⟩
      · obtain ⟨k, rfl⟩ : ∃ q, k = q + 1 := ⟨k - 1, by omega⟩
        unfold spec_SquarePlan.f
        rw [neGood_f a l hl (by omega), h]
        simp [js (k + 1) (by omega), spec_SquarePlan.j0]
      · obtain ⟨k, rfl⟩ : ∃ q, k = q + 1 := ⟨k - 1, by omega⟩
        unfold impl_SquarePlan.f
        rw [fi (k + 1) hk]
        by_cases hq : q.length = 0
        · rw [if_pos hq]
          simp [impl_SquarePlan.j0]
        · rw [if_neg hq]
          simp [ji (k + 1) (by omega), impl_SquarePlan.j0]
    | true =>
      by_cases hq : q.length = 0
      · refine ⟨([], false), by simp, fun k hk => ?_, fun k hk => ?_⟩
        · obtain ⟨k, rfl⟩ : ∃ q, k = q + 1 := ⟨k - 1, by omega⟩
          unfold spec_SquarePlan.f
          rw [neGood_f a l hl (by omega), h]
          simp only [if_true, Option.bind_some, js (k + 1) (by omega), Bool.not_true, spec_SquarePlan.j0, Bool.false_eq_true, if_false, qs k (by omega)]
          rw [if_pos (by omega)]
        · obtain ⟨k, rfl⟩ : ∃ q, k = q + 1 := ⟨k - 1, by omega⟩
          unfold impl_SquarePlan.f
          rw [fi (k + 1) hk, if_pos hq]
          simp [impl_SquarePlan.j0]
      · have hmem : rd_L3 q 0 ∈ q := by
          cases q with
          | nil => exact absurd rfl hq
          | cons s q => exact List.mem_cons_self
        have hall := (sq_inv l a (by omega) 50000).1 [] q 0 (by omega) (by simp) (qs 50000 (by omega))
        obtain ⟨w, x, y, z, es, g0, g1, g2, g3, g4, g5, g6, g7⟩ := hall _ hmem
        obtain ⟨t, ht, ts, ti⟩ := plan_tree a l h (J rfl) [w, x, y, z] (by simp) (fun p hp => by
          simp only [List.mem_cons, List.not_mem_nil, or_false] at hp
          rcases hp with rfl | rfl | rfl | rfl <;> omega) (by simp; omega)
        refine ⟨(t.reverse ++ four w x y z ++ t, true), by simp [four]; omega, fun k hk => ?_, fun k hk => ?_⟩
        · obtain ⟨k, rfl⟩ : ∃ q, k = q + 1 := ⟨k - 1, by omega⟩
          unfold spec_SquarePlan.f
          rw [neGood_f a l hl (by omega), h]
          simp only [if_true, Option.bind_some, js (k + 1) (by omega), Bool.not_true, spec_SquarePlan.j0, Bool.false_eq_true, if_false, qs k (by omega)]
          rw [if_neg (by omega), if_pos (by omega), es, ts k (by omega)]
          simp only [Option.bind_some]
          rw [w64 (x := (t.length : Int) - 1) (by omega) (by omega), sp_l0 w x y z t (by omega) t.length k [] (by omega) (by simp; omega) (by omega), List.take_length]
          rfl
        · obtain ⟨k, rfl⟩ : ∃ q, k = q + 1 := ⟨k - 1, by omega⟩
          have r0 : rd [w, x, y, z] 0 = w := rfl
          have r1 : rd [w, x, y, z] 1 = x := rfl
          have r2 : rd [w, x, y, z] 2 = y := rfl
          have r3 : rd [w, x, y, z] 3 = z := rfl
          unfold impl_SquarePlan.f
          rw [fi (k + 1) hk, if_neg hq]
          simp only [if_true, Option.bind_some, ji (k + 1) (by omega), Bool.not_true, impl_SquarePlan.j0, Bool.false_eq_true, if_false, es, ti k (by omega)]
          have l0 : ((0 : Int) < ([w, x, y, z].length : Int)) = True := eq_true (by simp)
          have l1 : ((1 : Int) < ([w, x, y, z].length : Int)) = True := eq_true (by simp)
          have l2 : ((2 : Int) < ([w, x, y, z].length : Int)) = True := eq_true (by simp)
          have l3 : ((3 : Int) < ([w, x, y, z].length : Int)) = True := eq_true (by simp)
          simp only [l0, l1, l2, l3, if_true, r0, r1, r2, r3, impl_call.f, Option.bind_some]
          rw [turned_f t (by omega)]
          simp only [Option.bind_some]
          rw [concat_f _ (by simp) (by simp; omega)]
          simp [four]
  · rw [Bool.not_eq_true] at h
    refine ⟨([], false), by simp, fun k hk => ?_, fun k hk => ?_⟩
    · obtain ⟨k, rfl⟩ : ∃ q, k = q + 1 := ⟨k - 1, by omega⟩
      unfold spec_SquarePlan.f
      rw [neGood_f a l hl (by omega), h]
      simp [spec_SquarePlan.j0]
    · obtain ⟨k, rfl⟩ : ∃ q, k = q + 1 := ⟨k - 1, by omega⟩
      unfold impl_SquarePlan.f impl_FirstSquare.f
      rw [arePairs_f a l hl (by omega), h]
      simp [impl_SquarePlan.j0]
theorem FnExactSquarePlan : ∀ (a0 : Int) (l1 : List (S38)), (Lit.int .i64 a0).wf = true → l1.length ≤ maxLen → (∀ x ∈ l1, (fun x => (Lit.int .i64 x.f0).wf = true ∧ (Lit.int .i64 x.f1).wf = true) x) → ∃ k, laws_FnExactSquarePlan.f k a0 l1 = some true := by
  intro a l _ hm _
  refine ⟨2000000, ?_⟩
  unfold laws_FnExactSquarePlan.f
  rw [szCallS_f l (by unfold maxLen at hm; omega)]
  simp only [Option.bind_some]
  by_cases h : l.length ≤ 1048576
  · obtain ⟨⟨o, b⟩, ho, hs, hi⟩ := SquarePlan_both a (l.map cvCall) (by simpa using h)
    dsimp only at ho
    have t1 : ∀ k, 1200000 ≤ k → laws_toCallS.f k l = some (l.map cvCall) := fun k hk => toCallS_f l h (by omega)
    have q1 : ∀ k, 1200000 ≤ k → laws_eqCallS.f k (l.map cvCall) (l.map cvCall) = some true := fun k hk => eqCallS_f _ (by simp; omega) (by simp; omega)
    have m1 : ∀ k, 1200000 ≤ k → laws_markCallS.f k (l.map cvCall) 1 = some (1 + 2 * ((l.map cvCall).length : Int), mkC (l.map cvCall).length) := fun k hk => markCallS_f _ (by simp; omega) (by simp; omega)
    have q2 : ∀ k, 1200000 ≤ k → laws_eqCallS.f k o o = some true := fun k hk => eqCallS_f _ (by omega) (by omega)
    have m2 : ∀ k, 1200000 ≤ k → laws_markCallS.f k o 1 = some (1 + 2 * (o.length : Int), mkC o.length) := fun k hk => markCallS_f _ (by omega) (by omega)
    have d2 : ∀ k, 1200000 ≤ k → laws_heldCallS.f k (mkC o.length) 1 = some (1 + 2 * (o.length : Int)) := fun k hk => heldCallS_f _ (by omega) (by omega)
    have n1 : ¬ (1 + 2 * ((l.map cvCall).length : Int) < 0) := by omega
    have n2 : ¬ (1 + 2 * (o.length : Int) < 0) := by omega
    rw [if_pos h, if_neg (by omega)]
    simp (disch := omega) only [t1, hs, hi, q1, q2, Option.bind_some, if_true, bne_self_eq_false]
    rw [laws_FnExactSquarePlan.j0.eq_def]
    simp (disch := omega) only [t1, hs, hi, q1, q2, m1, m2, d2, n1, n2, Option.bind_some, if_true, if_false, bne_self_eq_false, Bool.false_eq_true]
    rw [laws_FnExactSquarePlan.j1.eq_def]
    simp (disch := omega) only [t1, hs, hi, q1, q2, m1, m2, d2, n1, n2, Option.bind_some, if_true, if_false, bne_self_eq_false, Bool.false_eq_true]
    rw [laws_FnExactSquarePlan.j2.eq_def]
    simp (disch := omega) only [d2, n2, Option.bind_some, if_true, if_false, Bool.false_eq_true]
  · rw [if_neg h]
    simp

end Go.Proofs.Ytbmhgmnlkeebcaa.Pure
