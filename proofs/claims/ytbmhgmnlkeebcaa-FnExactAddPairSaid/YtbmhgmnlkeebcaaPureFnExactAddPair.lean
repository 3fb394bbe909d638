/- For every number of friends, every list of pairs and every pair the program's AddPair and the reference's agree, and the network shares no memory; no conditions. -/
import Derived.Test.YtbmhgmnlkeebcaaPFnExactAddPairx11
set_option linter.unusedSimpArgs false
set_option linter.unusedVariables false
namespace Go.Proofs.Ytbmhgmnlkeebcaa.Pure
open Go.RowKit Go.Proofs.Ytbmhgmnlkeebcaa.PFnExactAddPair Go.Proofs.YtbmhgmnlkeebcaaW.PrintWords Go.Proofs.YtbmhgmnlkeebcaaW.PrintLast Go.Proofs.YtbmhgmnlkeebcaaW.PrintMore

theorem w64 {x : Int} (h0 : -9223372036854775808 ≤ x) (h1 : x ≤ 9223372036854775807) : wrap64 x = x := by unfold wrap64; omega
theorem up64 {i n : Nat} (h : i < n) (hn : n ≤ 4611686018427387904) : wrap64 ((i : Int) + 1) = ((i + 1 : Nat) : Int) := by rw [w64 (by omega) (by omega)]; omega
theorem rd_lt {xs : List Int} {i : Nat} (h : i < xs.length) : rd xs (i : Int) = xs[i] := by unfold rd; simp [List.getD_eq_getElem?_getD, h]
/-- An element of the law's own type, as the program's. -/
def cvCall (x : S38) : S40 := ⟨x.f0, x.f1⟩
theorem rdCall0 {xs : List S38} {i : Nat} (h : i < xs.length) : rd_T38 xs (i : Int) = xs[i] := by unfold rd_T38; simp [List.getD_eq_getElem?_getD, h]
theorem rdCall1 {xs : List S40} {i : Nat} (h : i < xs.length) : rd_T40 xs (i : Int) = xs[i] := by unfold rd_T40; simp [List.getD_eq_getElem?_getD, h]
theorem toCallS_l0 (a : List S38) (hn : a.length ≤ 4611686018427387904) : ∀ (d i k : Nat), i + d = a.length → d < k → laws_toCallS.l0 k a ((a.take i).map cvCall ++ List.replicate d z40) (i : Int) = some (a.map cvCall)
  | 0, i, k, hi, hk => by
    obtain ⟨k, rfl⟩ : ∃ q, k = q + 1 := ⟨k - 1, by omega⟩
    simp only [laws_toCallS.l0]
    rw [if_neg (by omega), List.take_of_length_le (by omega)]
    simp
  | d + 1, i, k, hi, hk => by
    obtain ⟨k, rfl⟩ : ∃ q, k = q + 1 := ⟨k - 1, by omega⟩
    have ih := toCallS_l0 a hn d (i + 1) k (by omega) (by omega)
    have ha : i < a.length := by omega
    simp only [laws_toCallS.l0, laws_toCall.f, Option.bind_some]
    rw [if_pos (by omega), if_pos (by omega), if_pos (by simp; omega), up64 ha hn, rdCall0 ha]
    have he : ((a.take i).map cvCall ++ List.replicate (d + 1) z40).set ((i : Nat) : Int).toNat (cvCall a[i]) = (a.take (i + 1)).map cvCall ++ List.replicate d z40 := by
      rw [List.set_append_right _ _ (by simp; omega), List.replicate_succ]
      have e : ((i : Nat) : Int).toNat - ((a.take i).map cvCall).length = 0 := by simp; omega
      rw [e, List.set_cons_zero, List.take_succ_eq_append_getElem ha]
      simp only [List.append_assoc, List.singleton_append, List.map_append, List.map_cons, List.map_nil]
    exact (congrArg (fun z => laws_toCallS.l0 k a z ((i + 1 : Nat) : Int)) he).trans ih
theorem toCallS_f (a : List S38) (hn : a.length ≤ 1048576) {k : Nat} (hk : a.length < k) : laws_toCallS.f k a = some (a.map cvCall) := by
  unfold laws_toCallS.f
  rw [if_pos (by omega), if_pos (by omega)]
  exact toCallS_l0 a (by omega) a.length 0 k (by omega) hk
theorem eqCallS_l0 (a : List S40) (hn : a.length ≤ 4611686018427387904) : ∀ (d i k : Nat), i + d = a.length → d < k → laws_eqCallS.l0 k a a (i : Int) = some true
  | 0, i, k, hi, hk => by
    obtain ⟨k, rfl⟩ : ∃ q, k = q + 1 := ⟨k - 1, by omega⟩
    simp only [laws_eqCallS.l0]
    rw [if_neg (by omega)]
  | d + 1, i, k, hi, hk => by
    obtain ⟨k, rfl⟩ : ∃ q, k = q + 1 := ⟨k - 1, by omega⟩
    have ih := eqCallS_l0 a hn d (i + 1) k (by omega) (by omega)
    have ha : i < a.length := by omega
    simp only [laws_eqCallS.l0, laws_eqCall.f]
    rw [if_pos (by omega), if_pos (by omega), if_pos (by omega), up64 ha hn]
    simpa using ih
theorem eqCallS_f (a : List S40) (hn : a.length ≤ 4611686018427387904) {k : Nat} (hk : a.length < k) : laws_eqCallS.f k a a = some true := by
  unfold laws_eqCallS.f
  rw [if_pos rfl]
  exact eqCallS_l0 a hn a.length 0 k (by omega) hk
theorem szCallS_f (a : List S38) (hn : a.length ≤ 9223372036854775807) : laws_szCallS.f a 1048576 = some (if a.length ≤ 1048576 then 1048576 - (a.length : Int) else -1) := by
  unfold laws_szCallS.f
  rw [w64 (by omega) (by omega)]
  by_cases h : a.length ≤ 1048576
  · rw [if_neg (by omega), if_pos h]
  · rw [if_pos (by omega), if_neg h]
theorem netIn (x lo hi : Int) : spec_l1In.f x lo hi = some (decide (lo ≤ x ∧ x ≤ hi)) := by
  unfold spec_l1In.f
  by_cases h : lo ≤ x
  · rw [if_pos h]; simp [h]
  · rw [if_neg h]; simp [h]
theorem netWithin (x lo hi : Int) : impl_within.f x lo hi = some (decide (lo ≤ x ∧ x ≤ hi)) := by
  unfold impl_within.f
  by_cases h : lo ≤ x
  · rw [if_pos h]; simp [h]
  · rw [if_neg h]; simp [h]
/-- A call of two of so many friends, the lower one first. -/
def isC (a : Int) (c : S40) : Bool := decide (0 ≤ c.f0) && (decide (c.f0 < c.f1) && decide (c.f1 < a))
/-- Does one call stand before another? -/
def ltC (c e : S40) : Bool := decide (c.f0 < e.f0) || (decide (c.f0 = e.f0) && decide (c.f1 < e.f1))
theorem isCall_f (a : Int) (c : S40) : impl_isCall.f a c.f0 c.f1 = some (isC a c) := by
  unfold impl_isCall.f isC
  by_cases h : c.f0 ≥ 0
  · by_cases h2 : c.f0 < c.f1
    · rw [if_pos h, if_pos h2]; simp [h, h2]
    · rw [if_pos h, if_neg h2]; simp [h2]
  · rw [if_neg h]; simp [h]
theorem caCall_f (a : Int) (h1 : 1 ≤ a) (h10 : a ≤ 10) (c : S40) : spec_caCall.f a c.f0 c.f1 = some (isC a c) := by
  unfold spec_caCall.f isC
  rw [netIn, w64 (x := a - 1) (by omega) (by omega)]
  simp only [Option.bind_some]
  by_cases h : 0 ≤ c.f0 ∧ c.f0 ≤ a - 1
  · rw [if_pos (decide_eq_true h), w64 (x := c.f0 + 1) (by omega) (by omega), netIn]
    simp only [Option.bind_some, Option.some.injEq]
    rw [Bool.eq_iff_iff]
    simp only [decide_eq_true_eq, Bool.and_eq_true]
    omega
  · rw [if_neg (by simp [h])]
    simp only [Option.some.injEq]
    rw [Bool.eq_iff_iff]
    simp only [decide_eq_true_eq, Bool.and_eq_true, Bool.false_eq_true, false_iff]
    omega
theorem neLess_f (c e : S40) : spec_neLess.f c.f0 c.f1 e.f0 e.f1 = some (ltC c e) := by
  unfold spec_neLess.f ltC
  by_cases h : c.f0 < e.f0
  · rw [if_pos h]; simp [h]
  · by_cases h2 : c.f0 = e.f0
    · rw [if_neg h, if_pos h2]; simp [h2]
    · rw [if_neg h, if_neg h2]; simp [h, h2]
/-- What comparing two numbers answers. -/
def cmpI (x y : Int) : Int := if x < y then -1 else if x > y then 1 else 0
theorem compare_f (x y : Int) : cmp_Compare_int.f x y = some (cmpI x y) := by
  unfold cmp_Compare_int.f cmp_isNaN_int.f cmpI
  simp only [bne_self_eq_false, Option.bind_some, Bool.false_eq_true, if_false]
  split
  · rfl
  · split <;> rfl
theorem or2_f (x y : Int) {k : Nat} (hk : 4 < k) : cmp_Or_int.f k [x, y] = some (if x = 0 then y else x) := by
  obtain ⟨k, rfl⟩ : ∃ q, k = q + 3 := ⟨k - 3, by omega⟩
  have r0 : rd [x, y] 0 = x := rfl
  have r1 : rd [x, y] 1 = y := rfl
  have u0 : wrap64 (0 + 1) = 1 := w64 (by omega) (by omega)
  have u1 : wrap64 (1 + 1) = 2 := w64 (by omega) (by omega)
  unfold cmp_Or_int.f
  have e2 : cmp_Or_int.l0 (k + 1) 0 [x, y] 2 2 = some 0 := by
    simp only [cmp_Or_int.l0]; rw [if_neg (by omega)]
  have e1 : cmp_Or_int.l0 (k + 2) 0 [x, y] 2 1 = some y := by
    rw [cmp_Or_int.l0, if_pos (by omega), if_pos (by omega), if_pos (by simp), r1, u1]
    by_cases hy : y = 0
    · rw [if_pos hy, e2, hy]
    · rw [if_neg hy]
  show cmp_Or_int.l0 (k + 3) 0 [x, y] 2 0 = _
  rw [cmp_Or_int.l0, if_pos (by omega), if_pos (by omega), if_pos (by simp), r0, u0]
  by_cases hx : x = 0
  · rw [if_pos hx, e1, if_pos hx]
  · rw [if_neg hx, if_neg hx]
theorem compareCalls_f (c e : S40) {k : Nat} (hk : 4 < k) : ∃ v, impl_compareCalls.f k c.f0 c.f1 e.f0 e.f1 = some v ∧ (v ≥ 0 ↔ ltC c e = false) := by
  unfold impl_compareCalls.f
  simp only [compare_f, Option.bind_some, or2_f _ _ hk]
  refine ⟨_, rfl, ?_⟩
  unfold ltC cmpI
  by_cases h0 : c.f0 < e.f0
  · simp [h0]
  · by_cases h1 : c.f0 > e.f0
    · have h2 : ¬ c.f0 = e.f0 := by omega
      simp [h0, h1, h2]
    · have h2 : c.f0 = e.f0 := by omega
      by_cases h3 : c.f1 < e.f1
      · simp [h2, h3]
      · by_cases h4 : c.f1 > e.f1
        · simp [h2, h3, h4]
        · simp [h2, h3, h4]
/-- Is the call at this place a good one, and behind the one ahead of it? -/
def okP (a : Int) (l : List S40) (i : Nat) : Bool := isC a (rd_T40 l (i : Int)) && (decide (i = 0) || ltC (rd_T40 l ((i : Int) - 1)) (rd_T40 l (i : Int)))
def okFrom (a : Int) (l : List S40) : Nat → Nat → Bool
  | _, 0 => true
  | i, d + 1 => okP a l i && okFrom a l (i + 1) d
theorem neGood_l0 (a : Int) (h1 : 1 ≤ a) (h10 : a ≤ 10) (l : List S40) (hn : l.length ≤ 1048576) : ∀ (d i k : Nat), i + d = l.length → d < k → spec_neGood.l0 k a l l (l.length : Int) (i : Int) = some (okFrom a l i d)
  | 0, i, k, hi, hk => by
    obtain ⟨k, rfl⟩ : ∃ q, k = q + 1 := ⟨k - 1, by omega⟩
    simp only [spec_neGood.l0]
    rw [if_neg (by omega)]
    rfl
  | d + 1, i, k, hi, hk => by
    obtain ⟨k, rfl⟩ : ∃ q, k = q + 1 := ⟨k - 1, by omega⟩
    have ih := neGood_l0 a h1 h10 l hn d (i + 1) k (by omega) (by omega)
    have ha : i < l.length := by omega
    simp only [spec_neGood.l0]
    rw [if_pos (by omega), if_pos (by omega), if_pos (by omega), caCall_f a h1 h10, up64 ha (by omega), ih, w64 (x := (i : Int) - 1) (by omega) (by omega)]
    simp only [Option.bind_some, okFrom, okP]
    by_cases hc : isC a (rd_T40 l (i : Int)) = true
    · rw [if_pos hc, hc]
      by_cases h0 : i = 0
      · rw [if_neg (by omega)]; simp [h0]
      · rw [if_pos (by omega), if_pos (by omega), if_pos (by omega), neLess_f]
        simp only [Option.bind_some]
        cases ltC (rd_T40 l ((i : Int) - 1)) (rd_T40 l (i : Int)) <;> simp [h0]
    · rw [if_neg hc]
      rw [Bool.not_eq_true] at hc
      rw [hc]; rfl
theorem friends_f (a : Int) : spec_neFriends.f a = some (decide (1 ≤ a ∧ a ≤ 10)) := by
  unfold spec_neFriends.f
  rw [netIn]; rfl
theorem areFriends_f (a : Int) : impl_areFriends.f a = some (decide (1 ≤ a ∧ a ≤ 10)) := by
  unfold impl_areFriends.f
  rw [netWithin]; rfl
theorem arePairs_l0 (a : Int) (l : List S40) (hn : l.length ≤ 1048576) : ∀ (d i k : Nat), i + d = l.length → d + 10 < k → impl_ArePairs.l0 k a l l (l.length : Int) (i : Int) = some (okFrom a l i d && decide (1 ≤ a ∧ a ≤ 10))
  | 0, i, k, hi, hk => by
    obtain ⟨k, rfl⟩ : ∃ q, k = q + 1 := ⟨k - 1, by omega⟩
    simp only [impl_ArePairs.l0]
    rw [if_neg (by omega), areFriends_f]
    rfl
  | d + 1, i, k, hi, hk => by
    obtain ⟨k, rfl⟩ : ∃ q, k = q + 1 := ⟨k - 1, by omega⟩
    have ih := arePairs_l0 a l hn d (i + 1) k (by omega) (by omega)
    have ha : i < l.length := by omega
    simp only [impl_ArePairs.l0]
    rw [if_pos (by omega), if_pos (by omega), if_pos (by omega), isCall_f, up64 ha (by omega), ih, w64 (x := (i : Int) - 1) (by omega) (by omega)]
    simp only [Option.bind_some, okFrom, okP]
    by_cases hc : isC a (rd_T40 l (i : Int)) = true
    · rw [if_pos hc, hc]
      by_cases h0 : i = 0
      · rw [if_neg (by omega)]; simp [h0]
      · rw [if_pos (by omega), if_pos (by omega), if_pos (by omega)]
        obtain ⟨v, e1, e2⟩ := compareCalls_f (rd_T40 l ((i : Int) - 1)) (rd_T40 l (i : Int)) (k := k) (by omega)
        rw [e1]
        simp only [Option.bind_some]
        by_cases hv : v ≥ 0
        · rw [if_pos hv, e2.1 hv]; simp [h0]
        · rw [if_neg hv]
          have : ltC (rd_T40 l ((i : Int) - 1)) (rd_T40 l (i : Int)) = true := by
            cases h : ltC (rd_T40 l ((i : Int) - 1)) (rd_T40 l (i : Int))
            · exact absurd (e2.2 h) hv
            · rfl
          rw [this]; simp
    · rw [if_neg hc]
      rw [Bool.not_eq_true] at hc
      rw [hc]; rfl
theorem okFrom_at {a : Int} {l : List S40} : ∀ {d i j : Nat}, okFrom a l i d = true → i ≤ j → j < i + d → okP a l j = true
  | 0, i, j, h, h1, h2 => by omega
  | d + 1, i, j, h, h1, h2 => by
    simp only [okFrom, Bool.and_eq_true] at h
    by_cases e : j = i
    · rw [e]; exact h.1
    · exact okFrom_at h.2 (by omega) (by omega)
/-- How many calls stand ahead of those of one friend. -/
def Tn (n : Nat) : Nat → Nat
  | 0 => 0
  | x + 1 => Tn n x + (n - 1 - x)
theorem Tn_mono (n : Nat) : ∀ {x y : Nat}, x ≤ y → Tn n x ≤ Tn n y := by
  intro x y h
  induction h with
  | refl => exact Nat.le_refl _
  | step _ ih => exact Nat.le_trans ih (by simp [Tn])
theorem Tn_all : ∀ n ∈ List.range 11, Tn n n = n * (n - 1) / 2 := by decide
theorem len_bound (a : Int) (h1 : 1 ≤ a) (h10 : a ≤ 10) (l : List S40) (h : okFrom a l 0 l.length = true) : (l.length : Int) ≤ (Int.tdiv (a * (a - 1)) 2) := by
  obtain ⟨n, rfl⟩ := Int.eq_ofNat_of_zero_le (show 0 ≤ a by omega)
  have key : ∀ j : Nat, j < l.length → j ≤ Tn n (rd_T40 l (j : Int)).f0.toNat + ((rd_T40 l (j : Int)).f1.toNat - (rd_T40 l (j : Int)).f0.toNat - 1) := by
    intro j
    induction j with
    | zero => intro _; omega
    | succ j ih =>
      intro hj
      have ih := ih (by omega)
      have o1 := okFrom_at h (Nat.zero_le j) (by omega)
      have o2 := okFrom_at h (Nat.zero_le (j + 1)) (by omega)
      simp only [okP, isC, ltC, Bool.and_eq_true, Bool.or_eq_true, decide_eq_true_eq] at o1 o2
      rw [show (((j + 1 : Nat) : Int) - 1) = (j : Int) by omega] at o2
      generalize rd_T40 l ((j : Nat) : Int) = c at *
      generalize rd_T40 l ((j + 1 : Nat) : Int) = e at *
      obtain ⟨⟨c0, c1, c2⟩, _⟩ := o1
      obtain ⟨⟨e0, e1, e2⟩, o3⟩ := o2
      rcases o3 with o3 | o3 | ⟨o3, o4⟩
      · omega
      · have m := Tn_mono n (x := c.f0.toNat + 1) (y := e.f0.toNat) (by omega)
        simp only [Tn] at m
        omega
      · have : c.f0.toNat = e.f0.toNat := by omega
        rw [← this]
        omega
  have hn := Tn_all n (by rw [List.mem_range]; omega)
  have hb : ((n * (n - 1) / 2 : Nat) : Int) = Int.tdiv ((n : Int) * ((n : Int) - 1)) 2 := by
    have hn' : n ∈ List.range 11 := by rw [List.mem_range]; omega
    have hall : ∀ n ∈ List.range 11, 1 ≤ n → ((n * (n - 1) / 2 : Nat) : Int) = Int.tdiv ((n : Int) * ((n : Int) - 1)) 2 := by decide
    exact hall n hn' (by omega)
  rw [← hb]
  by_cases hl : l.length = 0
  · omega
  · have hk := key (l.length - 1) (by omega)
    have o := okFrom_at h (Nat.zero_le (l.length - 1)) (by omega)
    simp only [okP, isC, Bool.and_eq_true, decide_eq_true_eq] at o
    generalize rd_T40 l ((l.length - 1 : Nat) : Int) = c at *
    obtain ⟨⟨c0, c1, c2⟩, _⟩ := o
    have m := Tn_mono n (x := c.f0.toNat + 1) (y := n) (by omega)
    simp only [Tn] at m
    omega
/-- Are they pairs? -/
def areP (a : Int) (l : List S40) : Bool := okFrom a l 0 l.length && decide (1 ≤ a ∧ a ≤ 10)
theorem arePairs_f (a : Int) (l : List S40) (hn : l.length ≤ 1048576) {k : Nat} (hk : 1048600 < k) : impl_ArePairs.f k a l = some (areP a l) :=
  arePairs_l0 a l hn l.length 0 k (by omega) (by omega)
theorem neGood_f (a : Int) (l : List S40) (hn : l.length ≤ 1048576) {k : Nat} (hk : 1048600 < k) : spec_neGood.f k a l = some (areP a l) := by
  obtain ⟨k, rfl⟩ : ∃ q, k = q + 1 := ⟨k - 1, by omega⟩
  unfold spec_neGood.f areP
  rw [friends_f]
  simp only [Option.bind_some]
  by_cases h : 1 ≤ a ∧ a ≤ 10
  · rw [if_pos (decide_eq_true h), w64 (x := a - 1) (by omega) (by omega)]
    have hm : a * (a - 1) ≤ 90 ∧ 0 ≤ a * (a - 1) := by
      have : a = 1 ∨ a = 2 ∨ a = 3 ∨ a = 4 ∨ a = 5 ∨ a = 6 ∨ a = 7 ∨ a = 8 ∨ a = 9 ∨ a = 10 := by omega
      rcases this with rfl | rfl | rfl | rfl | rfl | rfl | rfl | rfl | rfl | rfl <;> decide
    rw [w64 (x := a * (a - 1)) (by omega) (by omega)]
    have ht : Int.tdiv (a * (a - 1)) 2 ≤ 90 ∧ 0 ≤ Int.tdiv (a * (a - 1)) 2 := by
      generalize a * (a - 1) = z at hm
      rw [Int.tdiv_eq_ediv_of_nonneg hm.2]
      omega
    rw [w64 (x := Int.tdiv (a * (a - 1)) 2) (by omega) (by omega)]
    simp only [spec_neGood.j0]
    by_cases hl : (l.length : Int) > Int.tdiv (a * (a - 1)) 2
    · rw [if_pos (decide_eq_true hl)]
      have : okFrom a l 0 l.length = false := by
        cases ho : okFrom a l 0 l.length
        · rfl
        · have := len_bound a h.1 h.2 l ho; omega
      rw [this]; rfl
    · rw [if_neg (by simpa using hl)]
      have := neGood_l0 a h.1 h.2 l hn l.length 0 k (by omega) (by omega)
      rw [show (0 : Int) = ((0 : Nat) : Int) from rfl, this, decide_eq_true h]
      simp
  · rw [if_neg (by simpa using h)]
    simp only [spec_neGood.j0, if_true]
    rw [decide_eq_false h]; simp
/-- May these two call each other? -/
def hasP (l : List S40) (x y : Int) : Bool := l.any fun c => c.f0 == mn x y && (c.f1 == mx x y)
theorem caPair_f (x y : Int) : spec_caPair.f x y = some (mn x y, mx x y) := by
  unfold spec_caPair.f spec_l1Least.f spec_l1Most.f mn mx
  by_cases h : x < y
  · rw [if_pos h, if_neg (by omega), if_neg (by omega), if_pos h]; rfl
  · by_cases h2 : x > y
    · rw [if_neg h, if_pos h2, if_pos (by omega), if_neg h]; rfl
    · rw [if_neg h, if_neg h2, if_neg (by omega), if_neg h]
      simp; omega
theorem neIs_l0 (x y : Int) (l : List S40) (hn : l.length ≤ 1048576) : ∀ (d i k : Nat), i + d = l.length → d < k → spec_neIs.l0 k x y l (l.length : Int) (i : Int) = some ((l.drop i).any fun c => c.f0 == mn x y && (c.f1 == mx x y))
  | 0, i, k, hi, hk => by
    obtain ⟨k, rfl⟩ : ∃ q, k = q + 1 := ⟨k - 1, by omega⟩
    simp only [spec_neIs.l0]
    rw [if_neg (by omega), List.drop_eq_nil_of_le (by omega)]
    rfl
  | d + 1, i, k, hi, hk => by
    obtain ⟨k, rfl⟩ : ∃ q, k = q + 1 := ⟨k - 1, by omega⟩
    have ih := neIs_l0 x y l hn d (i + 1) k (by omega) (by omega)
    have ha : i < l.length := by omega
    simp only [spec_neIs.l0]
    rw [if_pos (by omega), if_pos (by omega), if_pos (by omega), caPair_f, up64 ha (by omega), ih, rdCall1 ha, List.drop_eq_getElem_cons ha, List.any_cons]
    simp only [Option.bind_some]
    cases (l[i].f0 == mn x y && (l[i].f1 == mx x y)) <;> simp
theorem neIs_f (x y : Int) (l : List S40) (hn : l.length ≤ 1048576) {k : Nat} (hk : l.length < k) : spec_neIs.f k l x y = some (hasP l x y) := by
  have := neIs_l0 x y l hn l.length 0 k (by omega) hk
  simpa [spec_neIs.f, hasP] using this
theorem callIx_l0 (u v : Int) (l : List S40) (hn : l.length ≤ 1048576) : ∀ (d i k : Nat), i + d = l.length → d < k → ∃ r : Int, impl_Call_93.l0 k l (l.length : Int) (i : Int) u v = some r ∧ decide (r ≥ 0) = (l.drop i).any fun c => c.f0 == u && (c.f1 == v)
  | 0, i, k, hi, hk => by
    obtain ⟨k, rfl⟩ : ∃ q, k = q + 1 := ⟨k - 1, by omega⟩
    simp only [impl_Call_93.l0]
    rw [if_neg (by omega), List.drop_eq_nil_of_le (by omega)]
    exact ⟨-1, rfl, rfl⟩
  | d + 1, i, k, hi, hk => by
    obtain ⟨k, rfl⟩ : ∃ q, k = q + 1 := ⟨k - 1, by omega⟩
    obtain ⟨r, e1, e2⟩ := callIx_l0 u v l hn d (i + 1) k (by omega) (by omega)
    have ha : i < l.length := by omega
    simp only [impl_Call_93.l0]
    rw [if_pos (by omega), if_pos (by omega), if_pos (by omega), up64 ha (by omega), rdCall1 ha, List.drop_eq_getElem_cons ha]
    by_cases h : (u == l[i].f0 && (v == l[i].f1)) = true
    · rw [if_pos h]
      refine ⟨_, rfl, ?_⟩
      simp only [Bool.and_eq_true, beq_iff_eq] at h
      have hb : (l[i].f0 == u && (l[i].f1 == v)) = true := by simp [h.1, h.2]
      rw [List.any_cons, hb]
      simp
    · rw [if_neg h]
      refine ⟨r, e1, ?_⟩
      rw [e2, List.any_cons]
      have : (l[i].f0 == u && (l[i].f1 == v)) = false := by
        rw [Bool.eq_false_iff]
        intro h2
        simp only [Bool.and_eq_true, beq_iff_eq] at h2
        exact h (by simp [h2.1, h2.2])
      rw [this]; simp
theorem areP_good {a : Int} {l : List S40} (h : areP a l = true) : (1 ≤ a ∧ a ≤ 10) ∧ (∀ c ∈ l, 0 ≤ c.f0 ∧ c.f0 < c.f1 ∧ c.f1 < a) ∧ l.length ≤ 45 := by
  unfold areP at h
  rw [Bool.and_eq_true] at h
  have h2 := of_decide_eq_true h.2
  refine ⟨h2, fun c hc => ?_, ?_⟩
  · obtain ⟨i, hi, rfl⟩ := List.mem_iff_getElem.1 hc
    have := okFrom_at h.1 (Nat.zero_le i) (by omega)
    rw [okP, rdCall1 hi] at this
    simp only [isC, Bool.and_eq_true, decide_eq_true_eq] at this
    exact this.1
  · have := len_bound a h2.1 h2.2 l h.1
    have hm : Int.tdiv (a * (a - 1)) 2 ≤ 45 := by
      have : a = 1 ∨ a = 2 ∨ a = 3 ∨ a = 4 ∨ a = 5 ∨ a = 6 ∨ a = 7 ∨ a = 8 ∨ a = 9 ∨ a = 10 := by omega
      rcases this with rfl | rfl | rfl | rfl | rfl | rfl | rfl | rfl | rfl | rfl <;> decide
    omega
/-- The calls (1, 2), (3, 4), .. -/
def mkC (n : Nat) : List S40 := (List.range n).map fun (j : Nat) => ⟨1 + 2 * (j : Int), 1 + 2 * (j : Int) + 1⟩
theorem mkC_len (n : Nat) : (mkC n).length = n := by simp [mkC]
theorem mkC_succ (n : Nat) : mkC (n + 1) = mkC n ++ [⟨1 + 2 * (n : Int), 1 + 2 * (n : Int) + 1⟩] := by simp [mkC, List.range_succ]
theorem mkC_rd {n i : Nat} (h : i < n) : rd_T40 (mkC n) (i : Int) = ⟨1 + 2 * (i : Int), 1 + 2 * (i : Int) + 1⟩ := by
  rw [rdCall1 (by rw [mkC_len]; exact h)]
  simp [mkC]
theorem markCallS_l0 (l : List S40) (hn : l.length ≤ 1000000000) : ∀ (d i k : Nat), i + d = l.length → d < k → laws_markCallS.l0 k (mkC i ++ l.drop i) (1 + 2 * (i : Int)) (i : Int) = some (1 + 2 * (l.length : Int), mkC l.length)
  | 0, i, k, hi, hk => by
    obtain ⟨k, rfl⟩ : ∃ q, k = q + 1 := ⟨k - 1, by omega⟩
    have e : i = l.length := by omega
    subst e
    simp only [laws_markCallS.l0]
    rw [if_neg (by rw [List.length_append, mkC_len, List.length_drop]; omega), List.drop_eq_nil_of_le (by omega), List.append_nil]
  | d + 1, i, k, hi, hk => by
    obtain ⟨k, rfl⟩ : ∃ q, k = q + 1 := ⟨k - 1, by omega⟩
    have ha : i < l.length := by omega
    have ih := markCallS_l0 l hn d (i + 1) k (by omega) (by omega)
    simp only [laws_markCallS.l0, Option.bind_some]
    rw [if_pos (by rw [List.length_append, mkC_len, List.length_drop]; omega), if_pos (by omega), up64 ha (by omega), w64 (x := 1 + 2 * (i : Int) + 1) (by omega) (by omega), w64 (x := 1 + 2 * (i : Int) + 1 + 1) (by omega) (by omega), Int.toNat_natCast]
    have hl : i < (mkC i ++ l.drop i).length := by rw [List.length_append, mkC_len, List.length_drop]; omega
    have he : ∀ v : S40, (mkC i ++ l.drop i).set i v = mkC i ++ v :: l.drop (i + 1) := by
      intro v
      rw [List.set_append_right _ _ (by rw [mkC_len]; omega), mkC_len, List.drop_eq_getElem_cons ha, show i - i = 0 by omega, List.set_cons_zero]
    have hr : ∀ v : S40, rd_T40 ((mkC i ++ l.drop i).set i v) (i : Int) = v := by
      intro v
      rw [rdCall1 (by rw [List.length_set]; exact hl), List.getElem_set_self]
    rw [hr, List.set_set, he, show 1 + 2 * (i : Int) + 1 + 1 = 1 + 2 * ((i + 1 : Nat) : Int) by omega]
    rw [mkC_succ, List.append_assoc, List.singleton_append] at ih
    exact ih
theorem markCallS_f (l : List S40) (hn : l.length ≤ 1000000000) {k : Nat} (hk : l.length < k) : laws_markCallS.f k l 1 = some (1 + 2 * (l.length : Int), mkC l.length) := by
  have h := markCallS_l0 l hn l.length 0 k (by omega) hk
  unfold laws_markCallS.f
  simpa [mkC] using h
theorem heldCallS_l0 (n : Nat) (hn : n ≤ 1000000000) : ∀ (d i k : Nat), i + d = n → d < k → laws_heldCallS.l0 k (mkC n) (1 + 2 * (i : Int)) (i : Int) = some (1 + 2 * (n : Int))
  | 0, i, k, hi, hk => by
    obtain ⟨k, rfl⟩ : ∃ q, k = q + 1 := ⟨k - 1, by omega⟩
    have e : i = n := by omega
    subst e
    simp only [laws_heldCallS.l0]
    rw [if_neg (by rw [mkC_len]; omega)]
  | d + 1, i, k, hi, hk => by
    obtain ⟨k, rfl⟩ : ∃ q, k = q + 1 := ⟨k - 1, by omega⟩
    have ha : i < n := by omega
    have ih := heldCallS_l0 n hn d (i + 1) k (by omega) (by omega)
    simp only [laws_heldCallS.l0]
    rw [if_pos (by rw [mkC_len]; omega), if_pos (by omega), mkC_rd ha, if_pos rfl, w64 (x := 1 + 2 * (i : Int) + 1) (by omega) (by omega), if_pos rfl, up64 ha (by omega), w64 (x := 1 + 2 * (i : Int) + 1 + 1) (by omega) (by omega), show 1 + 2 * (i : Int) + 1 + 1 = 1 + 2 * ((i + 1 : Nat) : Int) by omega]
    exact ih
theorem heldCallS_f (n : Nat) (hn : n ≤ 1000000000) {k : Nat} (hk : n < k) : laws_heldCallS.f k (mkC n) 1 = some (1 + 2 * (n : Int)) := by
  have h := heldCallS_l0 n hn n 0 k (by omega) hk
  unfold laws_heldCallS.f
  simpa using h
theorem ltC_iff (c e : S40) : ltC c e = true ↔ (c.f0 < e.f0 ∨ (c.f0 = e.f0 ∧ c.f1 < e.f1)) := by
  unfold ltC
  simp
theorem ltC_trans {c d e : S40} (h1 : ltC c d = true) (h2 : ltC d e = true) : ltC c e = true := by
  rw [ltC_iff] at *
  omega
theorem le_iff (c e : S40) : impl_Call_63.le c e = true ↔ (c.f0 < e.f0 ∨ (c.f0 = e.f0 ∧ c.f1 ≤ e.f1)) := by
  unfold impl_Call_63.le
  simp
theorem le_of_lt {c e : S40} (h : ltC c e = true) : impl_Call_63.le c e = true := by
  rw [ltC_iff] at h
  rw [le_iff]
  omega
theorem le_anti {c e : S40} (h1 : impl_Call_63.le c e = true) (h2 : impl_Call_63.le e c = true) : c = e := by
  rw [le_iff] at *
  obtain ⟨a, b⟩ := c
  obtain ⟨a', b'⟩ := e
  simp only at h1 h2
  congr 1 <;> omega
theorem areP_sorted {a : Int} {l : List S40} (h : areP a l = true) : ∀ j (hj : j < l.length) i (hi : i < j), ltC (l[i]'(by omega)) l[j] = true := by
  unfold areP at h
  rw [Bool.and_eq_true] at h
  have step : ∀ i (h2 : i + 1 < l.length), ltC (l[i]'(by omega)) l[i + 1] = true := fun i h2 => by
    have := okFrom_at h.1 (Nat.zero_le (i + 1)) (by omega)
    unfold okP at this
    rw [rdCall1 h2, show ((i + 1 : Nat) : Int) - 1 = (i : Int) by omega, rdCall1 (by omega)] at this
    simp only [Bool.and_eq_true, Bool.or_eq_true, decide_eq_true_eq] at this
    rcases this.2 with e | e
    · omega
    · exact e
  intro j
  induction j with
  | zero => intro _ i hi; omega
  | succ j ih =>
    intro hj i hi
    by_cases e : i = j
    · subst e; exact step i hj
    · exact ltC_trans (ih (by omega) i (by omega)) (step j hj)
/-- The reference's place for a pair. -/
theorem ap_l0 (l : List S40) (hl : l.length ≤ 1000000) (p0 p1 : Int) : ∀ (j k : Nat), j ≤ l.length → j < k → (∀ i (hi : i < l.length), j ≤ i → ltC ⟨p0, p1⟩ l[i] = true) → ∃ m : Nat, m ≤ l.length ∧ spec_AddPair.l0 k l (j : Int) p0 p1 = some (l.take m ++ [⟨p0, p1⟩] ++ l.drop m, true) ∧ (∀ i (hi : i < l.length), m ≤ i → ltC ⟨p0, p1⟩ l[i] = true) ∧ (∀ (hm : 0 < m) (hml : m ≤ l.length), ltC ⟨p0, p1⟩ (l[m - 1]'(by omega)) = false)
  | 0, k, hj, hk, h => by
    obtain ⟨k, rfl⟩ : ∃ q, k = q + 1 := ⟨k - 1, by omega⟩
    refine ⟨0, by omega, ?_, fun i hi _ => h i hi (by omega), fun hm _ => by omega⟩
    simp only [spec_AddPair.l0, Option.bind_some]
    rw [if_neg (by omega), if_pos (by omega), if_pos (by omega), if_pos (by simp), if_pos (by simp), if_pos (by simp; omega)]
    simp
  | j + 1, k, hj, hk, h => by
    obtain ⟨k, rfl⟩ : ∃ q, k = q + 1 := ⟨k - 1, by omega⟩
    have hjl : j < l.length := by omega
    have e1 : wrap64 (((j + 1 : Nat) : Int) - 1) = (j : Int) := by rw [w64 (by omega) (by omega)]; omega
    have e2 := neLess_f ⟨p0, p1⟩ (l[j])
    simp only at e2
    by_cases c : ltC ⟨p0, p1⟩ l[j] = true
    · obtain ⟨m, m1, m2, m3, m4⟩ := ap_l0 l hl p0 p1 j k (by omega) (by omega) (fun i hi hji => by
        by_cases e : i = j
        · subst e; exact c
        · exact h i hi (by omega))
      refine ⟨m, m1, ?_, m3, m4⟩
      simp only [spec_AddPair.l0]
      rw [if_pos (by omega), e1, if_pos (by omega), if_pos (by omega), rdCall1 hjl, e2]
      simp only [Option.bind_some]
      rw [if_pos c]
      exact m2
    · refine ⟨j + 1, hj, ?_, h, fun _ _ => by simpa using c⟩
      simp only [spec_AddPair.l0]
      rw [if_pos (by omega), e1, if_pos (by omega), if_pos (by omega), rdCall1 hjl, e2]
      simp only [Option.bind_some]
      rw [if_neg c, if_pos (by omega), if_pos (by omega), if_pos (by simp; omega), if_pos (by simp; omega), if_pos (by simp; omega)]
      simp
theorem has_pair (l : List S40) (p0 p1 : Int) (hp : p0 < p1) : hasP l p0 p1 = l.any fun c => c.f0 == p0 && (c.f1 == p1) := by
  unfold hasP mn mx
  rw [if_pos hp, if_neg (by omega)]
theorem sorted_eq (a : Int) (l : List S40) (h : areP a l = true) (p : S40) (hp : p ∉ l) (m : Nat) (m1 : m ≤ l.length) (m3 : ∀ i (hi : i < l.length), m ≤ i → ltC p l[i] = true) (m4 : ∀ (hm : 0 < m) (hml : m ≤ l.length), ltC p (l[m - 1]'(by omega)) = false) : (l ++ [p]).mergeSort impl_Call_63.le = l.take m ++ [p] ++ l.drop m := by
  have hs := areP_sorted h
  have below : ∀ i (hi : i < l.length), i < m → ltC l[i] p = true := fun i hi him => by
    have h4 := m4 (by omega) m1
    have hne : l[m - 1]'(by omega) ≠ p := fun e => hp (e ▸ List.getElem_mem _)
    have hlt : ltC (l[m - 1]'(by omega)) p = true := by
      rw [ltC_iff]
      have h5 : ¬ (p.f0 < (l[m - 1]'(by omega)).f0 ∨ (p.f0 = (l[m - 1]'(by omega)).f0 ∧ p.f1 < (l[m - 1]'(by omega)).f1)) := fun e => by
        rw [← ltC_iff, h4] at e
        cases e
      have h6 : ¬ ((l[m - 1]'(by omega)).f0 = p.f0 ∧ (l[m - 1]'(by omega)).f1 = p.f1) := fun e => hne (by
        generalize l[m - 1]'(by omega) = c at e
        obtain ⟨c0, c1⟩ := c
        obtain ⟨q0, q1⟩ := p
        simp only at e
        rw [e.1, e.2])
      omega
    by_cases e : i = m - 1
    · subst e; exact hlt
    · exact ltC_trans (hs (m - 1) (by omega) i (by omega)) hlt
  refine List.Perm.eq_of_pairwise (le := fun c e => impl_Call_63.le c e = true) (fun c e _ _ h1 h2 => le_anti h1 h2) (List.pairwise_mergeSort (fun a b c h1 h2 => by rw [le_iff] at *; omega) (fun a b => by rw [Bool.or_eq_true, le_iff, le_iff]; omega) _) ?_ ?_
  · rw [List.append_assoc, List.pairwise_append]
    have hpw : l.Pairwise fun c e => impl_Call_63.le c e = true := by
      rw [List.pairwise_iff_getElem]
      intro i j hi hj hij
      exact le_of_lt (hs j hj i hij)
    refine ⟨hpw.sublist (List.take_sublist _ _), ?_, ?_⟩
    · rw [List.singleton_append, List.pairwise_cons]
      refine ⟨fun e he => ?_, hpw.sublist (List.drop_sublist _ _)⟩
      obtain ⟨i, hi, rfl⟩ := List.mem_iff_getElem.1 he
      rw [List.getElem_drop]
      exact le_of_lt (m3 _ (by rw [List.length_drop] at hi; omega) (by omega))
    · intro c hc e he
      obtain ⟨i, hi, rfl⟩ := List.mem_iff_getElem.1 hc
      rw [List.length_take] at hi
      rw [List.getElem_take]
      have hb := below i (by omega) (by omega)
      rw [List.singleton_append, List.mem_cons] at he
      rcases he with rfl | he
      · exact le_of_lt hb
      · obtain ⟨j, hj, rfl⟩ := List.mem_iff_getElem.1 he
        rw [List.getElem_drop]
        exact le_of_lt (ltC_trans hb (m3 _ (by rw [List.length_drop] at hj; omega) (by omega)))
  · refine (List.mergeSort_perm _ _).trans ?_
    have : l ++ [p] = (l.take m ++ l.drop m) ++ [p] := by rw [List.take_append_drop]
    rw [this, List.append_assoc, List.append_assoc]
    exact List.perm_append_comm.append_left _
theorem AddPair_both (a : Int) (l : List S40) (p0 p1 : Int) (hl : l.length ≤ 1048576) : ∃ r : List S40 × Bool, r.1.length ≤ 1000 ∧ (∀ k, 1200000 ≤ k → spec_AddPair.f k a l p0 p1 = some r) ∧ (∀ k, 1200000 ≤ k → impl_AddPair.f k a l p0 p1 = some r) := by
  by_cases h : areP a l = true
  · obtain ⟨ha, hgood, hlen⟩ := areP_good h
    have c1 := caCall_f a ha.1 ha.2 ⟨p0, p1⟩
    have c2 := isCall_f a ⟨p0, p1⟩
    simp only at c1 c2
    by_cases hc : isC a ⟨p0, p1⟩ = true
    · rw [hc] at c1 c2
      have hlt : p0 < p1 := by
        unfold isC at hc
        simp only [Bool.and_eq_true, decide_eq_true_eq] at hc
        exact hc.2.1
      obtain ⟨b, eb⟩ : ∃ b, b = l.any fun c => c.f0 == p0 && (c.f1 == p1) := ⟨_, rfl⟩
      have n1 : ∀ k, 1200000 ≤ k → spec_neIs.f k l p0 p1 = some b := fun k hk => by
        rw [neIs_f p0 p1 l hl (by omega), has_pair l p0 p1 hlt, eb]
      have n2 : ∀ k, 1200000 ≤ k → impl_Call_61.f k l p0 p1 = some b := fun k hk => by
        unfold impl_Call_61.f impl_Call_93.f
        obtain ⟨r, e1, e2⟩ := callIx_l0 p0 p1 l hl l.length 0 k (by omega) (by omega)
        rw [List.drop_zero] at e2
        have e3 : impl_Call_93.l0 k l (l.length : Int) 0 p0 p1 = some r := e1
        rw [e3]
        simp only [Option.bind_some]
        rw [e2, eb]
      cases b with
      | true =>
        refine ⟨([], false), by simp, fun k hk => ?_, fun k hk => ?_⟩
        · obtain ⟨k, rfl⟩ : ∃ q, k = q + 1 := ⟨k - 1, by omega⟩
          unfold spec_AddPair.f
          rw [neGood_f a l hl (by omega), h]
          simp [c1, n1 (k + 1) hk, spec_AddPair.j0]
        · obtain ⟨k, rfl⟩ : ∃ q, k = q + 1 := ⟨k - 1, by omega⟩
          unfold impl_AddPair.f
          rw [arePairs_f a l hl (by omega), h]
          simp [c2, n2 (k + 1) hk, impl_AddPair.j0]
      | false =>
        have hp : (⟨p0, p1⟩ : S40) ∉ l := fun hm => by
          have := List.any_eq_false.1 eb.symm _ hm
          simp at this
        obtain ⟨m, m1, m2, m3, m4⟩ := ap_l0 l (by omega) p0 p1 l.length (1000) (by omega) (by omega) (fun i hi h2 => by omega)
        refine ⟨(l.take m ++ [⟨p0, p1⟩] ++ l.drop m, true), by simp; omega, fun k hk => ?_, fun k hk => ?_⟩
        · obtain ⟨k, rfl⟩ : ∃ q, k = q + 1 := ⟨k - 1, by omega⟩
          obtain ⟨m', m1', m2', m3', m4'⟩ := ap_l0 l (by omega) p0 p1 l.length k (by omega) (by omega) (fun i hi h2 => by omega)
          unfold spec_AddPair.f
          rw [neGood_f a l hl (by omega), h]
          simp only [if_true, c1, n1 (k + 1) hk, Option.bind_some, spec_AddPair.j0, Bool.false_eq_true, if_false]
          rw [m2', ← sorted_eq a l h ⟨p0, p1⟩ hp m m1 m3 m4, ← sorted_eq a l h ⟨p0, p1⟩ hp m' m1' m3' m4']
        · obtain ⟨k, rfl⟩ : ∃ q, k = q + 1 := ⟨k - 1, by omega⟩
          unfold impl_AddPair.f
          rw [arePairs_f a l hl (by omega), h]
          simp only [if_true, c2, n2 (k + 1) hk, Option.bind_some, impl_AddPair.j0, Bool.false_eq_true, if_false, impl_Call_62.f, impl_Call_63.f]
          rw [if_pos (by omega)]
          simp only [Option.bind_some]
          rw [if_pos (by simp; omega), if_pos (by simp; omega)]
          simp only [Option.bind_some]
          rw [sorted_eq a l h ⟨p0, p1⟩ hp m m1 m3 m4]
    · rw [Bool.not_eq_true] at hc
      rw [hc] at c1 c2
      refine ⟨([], false), by simp, fun k hk => ?_, fun k hk => ?_⟩
      · obtain ⟨k, rfl⟩ : ∃ q, k = q + 1 := ⟨k - 1, by omega⟩
        unfold spec_AddPair.f
        rw [neGood_f a l hl (by omega), h]
        simp [c1, spec_AddPair.j0]
      · obtain ⟨k, rfl⟩ : ∃ q, k = q + 1 := ⟨k - 1, by omega⟩
        unfold impl_AddPair.f
        rw [arePairs_f a l hl (by omega), h]
        simp [c2, impl_AddPair.j0]
  · rw [Bool.not_eq_true] at h
    refine ⟨([], false), by simp, fun k hk => ?_, fun k hk => ?_⟩
    · obtain ⟨k, rfl⟩ : ∃ q, k = q + 1 := ⟨k - 1, by omega⟩
      unfold spec_AddPair.f
      rw [neGood_f a l hl (by omega), h]
      simp [spec_AddPair.j0]
    · obtain ⟨k, rfl⟩ : ∃ q, k = q + 1 := ⟨k - 1, by omega⟩
      unfold impl_AddPair.f
      rw [arePairs_f a l hl (by omega), h]
      simp [impl_AddPair.j0]
theorem FnExactAddPair : ∀ (a0 : Int) (l1 : List (S38)) (a2_0 : Int) (a2_1 : Int), (Lit.int .i64 a0).wf = true → l1.length ≤ maxLen → (∀ x ∈ l1, (fun x => (Lit.int .i64 x.f0).wf = true ∧ (Lit.int .i64 x.f1).wf = true) x) → (Lit.int .i64 a2_0).wf = true → (Lit.int .i64 a2_1).wf = true → ∃ k, laws_FnExactAddPair.f k a0 l1 a2_0 a2_1 = some true := by
  intro a l p0 p1 _ hm _ _ _
  refine ⟨2000000, ?_⟩
  unfold laws_FnExactAddPair.f
  rw [szCallS_f l (by unfold maxLen at hm; omega)]
  simp only [Option.bind_some]
  by_cases h : l.length ≤ 1048576
  · obtain ⟨⟨o, b⟩, ho, hs, hi⟩ := AddPair_both a (l.map cvCall) p0 p1 (by simpa using h)
    dsimp only at ho
    have t1 : ∀ k, 1200000 ≤ k → laws_toCallS.f k l = some (l.map cvCall) := fun k hk => toCallS_f l h (by omega)
    have q1 : ∀ k, 1200000 ≤ k → laws_eqCallS.f k (l.map cvCall) (l.map cvCall) = some true := fun k hk => eqCallS_f _ (by simp; omega) (by simp; omega)
    have m1 : ∀ k, 1200000 ≤ k → laws_markCallS.f k (l.map cvCall) 1 = some (1 + 2 * ((l.map cvCall).length : Int), mkC (l.map cvCall).length) := fun k hk => markCallS_f _ (by simp; omega) (by simp; omega)
    have q2 : ∀ k, 1200000 ≤ k → laws_eqCallS.f k o o = some true := fun k hk => eqCallS_f _ (by omega) (by omega)
    have m2 : ∀ k, 1200000 ≤ k → laws_markCallS.f k o 1 = some (1 + 2 * (o.length : Int), mkC o.length) := fun k hk => markCallS_f _ (by omega) (by omega)
    have d2 : ∀ k, 1200000 ≤ k → laws_heldCallS.f k (mkC o.length) 1 = some (1 + 2 * (o.length : Int)) := fun k hk => heldCallS_f _ (by omega) (by omega)
    have n1 : ¬ (1 + 2 * ((l.map cvCall).length : Int) < 0) := by omega
    have n2 : ¬ (1 + 2 * (o.length : Int) < 0) := by omega
    rw [if_pos h, if_neg (by omega)]
    simp (disch := omega) only [t1, hs, hi, q1, q2, laws_toCall.f, Option.bind_some, if_true, bne_self_eq_false]
    rw [laws_FnExactAddPair.j0.eq_def]
    simp (disch := omega) only [t1, hs, hi, q1, q2, m1, m2, d2, n1, n2, laws_toCall.f, Option.bind_some, if_true, if_false, bne_self_eq_false, Bool.false_eq_true]
    rw [laws_FnExactAddPair.j1.eq_def]
    simp (disch := omega) only [t1, hs, hi, q1, q2, m1, m2, d2, n1, n2, laws_toCall.f, Option.bind_some, if_true, if_false, bne_self_eq_false, Bool.false_eq_true]
    rw [laws_FnExactAddPair.j2.eq_def]
    simp (disch := omega) only [d2, n2, Option.bind_some, if_true, if_false, Bool.false_eq_true]
  · rw [if_neg h]
    simp

end Go.Proofs.Ytbmhgmnlkeebcaa.Pure
